/-
  Plain words on drawing: what Below, Some and the reference's Some compute, as functions on lists; no program here.
-/
namespace Go.Proofs.Ytelepohdfcjnfaa

/-- the next number below n, and the numbers that are left -/
def bel (l : List Int) (n : Int) : Int × List Int :=
  if 2 ≤ n ∧ n ≤ 2147483647 then (match l with | [] => (0, []) | x :: r => (x % n, r)) else (0, l)

theorem bel_out {l : List Int} {n : Int} (h : n < 2 ∨ 2147483647 < n) : bel l n = (0, l) := by
  unfold bel; rw [if_neg (by omega)]

theorem bel_in {l : List Int} {n : Int} (h1 : 2 ≤ n) (h2 : n < 2147483648) {a : Nat} (ha : a < l.length) : bel (l.drop a) n = (l[a] % n, l.drop (a + 1)) := by
  rw [List.drop_eq_getElem_cons ha]
  unfold bel; rw [if_pos (by omega)]

/-- the place that is drawn of n places -/
def belN (l : List Int) (n : Nat) : Nat := (bel l n).1.toNat

theorem bel_range (l : List Int) (n : Nat) (hr : ∀ x ∈ l, 0 ≤ x ∧ x < 4294967296) (hn : 0 < n) : 0 ≤ (bel l n).1 ∧ (bel l n).1 < n := by
  unfold bel
  split
  · split
    · simp; omega
    · rename_i x r
      exact ⟨Int.emod_nonneg _ (by omega), Int.emod_lt_of_pos _ (by omega)⟩
  · simp; omega

theorem belN_eq (l : List Int) (n : Nat) (hr : ∀ x ∈ l, 0 ≤ x ∧ x < 4294967296) (hn : 0 < n) : (bel l n).1 = (belN l n : Int) ∧ belN l n < n := by
  have := bel_range l n hr hn
  unfold belN; omega

theorem bel_sub (l : List Int) (n : Int) (P : Int → Prop) (hr : ∀ x ∈ l, P x) : ∀ x ∈ (bel l n).2, P x := by
  unfold bel
  split
  · split
    · simp
    · rename_i x r; intro y hy; exact hr y (by simp at hy ⊢; exact .inr hy)
  · exact hr

/-- Some of a list: the elements drawn, and the numbers that are left -/
def someS {α : Type} : Nat → List Int → List α → Int → List α × List Int
  | 0, l, _, _ => ([], l)
  | f + 1, l, left, n =>
    if 0 < n ∧ 0 < left.length then
      match left[belN l left.length]? with
      | some x => let r := someS f (bel l left.length).2 (left.eraseIdx (belN l left.length)) (n - 1); (x :: r.1, r.2)
      | none => ([], l)
    else ([], l)

theorem someS_stop {α : Type} (f : Nat) (l : List Int) (left : List α) (n : Int) (h : ¬ (0 < n ∧ 0 < left.length)) : someS f l left n = ([], l) := by
  cases f with
  | zero => rfl
  | succ f => simp only [someS]; rw [if_neg h]

theorem someS_step {α : Type} (f : Nat) (l : List Int) (left : List α) (n : Int) (hn : 0 < n) (k : Nat) (hk : k = belN l left.length) (hl : k < left.length) :
    someS (f + 1) l left n = (left[k] :: (someS f (bel l left.length).2 (left.eraseIdx k) (n - 1)).1, (someS f (bel l left.length).2 (left.eraseIdx k) (n - 1)).2) := by
  subst hk
  rw [someS]
  rw [if_pos ⟨hn, by omega⟩, List.getElem?_eq_getElem hl]

theorem map_eraseIdx {α β : Type} (g : α → β) : ∀ (l : List α) (i : Nat), (l.map g).eraseIdx i = (l.eraseIdx i).map g
  | [], _ => rfl
  | _ :: _, 0 => rfl
  | x :: r, i + 1 => by simp [List.eraseIdx, map_eraseIdx g r i]

theorem someS_map {α β : Type} (g : α → β) : ∀ (f : Nat) (l : List Int) (left : List α) (n : Int), someS f l (left.map g) n = ((someS f l left n).1.map g, (someS f l left n).2)
  | 0, _, _, _ => rfl
  | f + 1, l, left, n => by
    simp only [someS, List.length_map]
    split
    · rw [List.getElem?_map]
      cases left[belN l left.length]? with
      | none => rfl
      | some x => simp only [Option.map_some, map_eraseIdx, someS_map g f]; rfl
    · rfl

theorem someS_length {α : Type} : ∀ (f : Nat) (l : List Int) (left : List α) (n : Int), left.length ≤ f → (∀ x ∈ l, 0 ≤ x ∧ x < 4294967296) → (someS f l left n).1.length = min n.toNat left.length
  | 0, l, left, n, h, _ => by simp [someS]; omega
  | f + 1, l, left, n, h, hr => by
    by_cases hc : 0 < n ∧ 0 < left.length
    · have hb := belN_eq l left.length hr hc.2
      rw [someS_step f l left n hc.1 _ rfl hb.2]
      have := someS_length f (bel l left.length).2 (left.eraseIdx (belN l left.length)) (n - 1) (by rw [List.length_eraseIdx]; split <;> omega) (bel_sub l _ _ hr)
      simp only [List.length_cons, this, List.length_eraseIdx]
      split <;> omega
    · rw [someS_stop _ _ _ _ hc]; simp; omega

theorem someS_sub {α : Type} : ∀ (f : Nat) (l : List Int) (left : List α) (n : Int), ∀ x ∈ (someS f l left n).1, x ∈ left
  | 0, _, _, _, x, h => by simp [someS] at h
  | f + 1, l, left, n, x, h => by
    simp only [someS] at h
    split at h
    · split at h
      · rename_i y hy
        simp only [List.mem_cons] at h
        rcases h with rfl | h
        · exact List.mem_of_getElem? hy
        · exact List.mem_of_mem_eraseIdx (someS_sub f _ _ _ x h)
      · simp at h
    · simp at h

theorem someS_nodup {α : Type} : ∀ (f : Nat) (l : List Int) (left : List α) (n : Int), left.Nodup → (someS f l left n).1.Nodup
  | 0, _, _, _, _ => by simp [someS]
  | f + 1, l, left, n, h => by
    simp only [someS]
    split
    · split
      · rename_i y hy
        refine List.nodup_cons.2 ⟨fun hm => ?_, someS_nodup f _ _ _ (h.eraseIdx _)⟩
        have hm := someS_sub f _ _ _ _ hm
        obtain ⟨hi, he⟩ := List.getElem?_eq_some_iff.1 hy
        rw [List.mem_eraseIdx_iff_getElem] at hm
        obtain ⟨j, hj, hne, hjy⟩ := hm
        have : j = belN l left.length := (List.getElem_inj (h₀ := hj) (h₁ := hi) h).1 (by rw [hjy, he])
        exact hne this
      · simp
    · simp

theorem someS_left {α : Type} : ∀ (f : Nat) (l : List Int) (left : List α) (n : Int), (∀ x ∈ l, 0 ≤ x ∧ x < 4294967296) → ∃ k, k ≤ l.length ∧ (someS f l left n).2 = l.drop k
  | 0, l, _, _, _ => ⟨0, by omega, rfl⟩
  | f + 1, l, left, n, hr => by
    have hb : ∃ k, k ≤ l.length ∧ (bel l left.length).2 = l.drop k := by
      unfold bel
      split
      · split
        · exact ⟨0, by simp, rfl⟩
        · exact ⟨1, by simp, rfl⟩
      · exact ⟨0, by omega, rfl⟩
    simp only [someS]
    split
    · split
      · obtain ⟨k, hk, e⟩ := hb
        obtain ⟨j, hj, e'⟩ := someS_left f (bel l left.length).2 (left.eraseIdx (belN l left.length)) (n - 1) (bel_sub l _ _ hr)
        refine ⟨k + j, ?_, ?_⟩
        · rw [e] at hj; simp at hj; omega
        · simp only [e']; rw [e, List.drop_drop]
      · exact ⟨0, by omega, rfl⟩
    · exact ⟨0, by omega, rfl⟩
end Go.Proofs.Ytelepohdfcjnfaa
