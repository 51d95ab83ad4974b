/-
  Sets of nodes in plain Lean: lists that rise.
-/
import Derived.Test.YtelepohdfcjnfaaSetDel
namespace Go.Proofs.Ytelepohdfcjnfaa
open Go.RowKit Go.Proofs

def ins (l : List Int) (x : Int) : List Int := insAt l (cnt l x) x
def del (l : List Int) (x : Int) : List Int := l.eraseIdx (cnt l x)
def sAddOk (l : List Int) (m n : Int) : Bool := has l n || (decide (1 ≤ n) && decide (n ≤ 65535) && decide ((l.length : Int) < m))
def sAdd (l : List Int) (m n : Int) : List Int := if has l n = true then l else if 1 ≤ n ∧ n ≤ 65535 ∧ (l.length : Int) < m then ins l n else l
def sDrop (l : List Int) (n : Int) : List Int := if has l n = true then del l n else l

/-- what a set's list keeps -/
structure Good (l : List Int) (m : Int) : Prop where
  up : l.Pairwise (· < ·)
  node : ∀ x ∈ l, 1 ≤ x ∧ x ≤ 65535
  fit : (l.length : Int) ≤ m
  most : m ≤ 64
  least : 0 ≤ m

theorem Good.le {l : List Int} {m : Int} (h : Good l m) : l.Pairwise (· ≤ ·) := h.up.imp (fun h => Int.le_of_lt h)
theorem Good.len {l : List Int} {m : Int} (h : Good l m) : l.length ≤ 64 := by have := h.fit; have := h.most; omega

theorem cnt_le (l : List Int) (x : Int) : cnt l x ≤ l.length := List.countP_le_length
theorem ins_length (l : List Int) (x : Int) : (ins l x).length = l.length + 1 := insAt_length _ _ _ (cnt_le l x)

/-- the first so many are less, the others are not -/
theorem cnt_split : ∀ {l : List Int}, l.Pairwise (· < ·) → ∀ (x : Int), (∀ y ∈ l.take (cnt l x), y < x) ∧ ∀ y ∈ l.drop (cnt l x), x ≤ y
  | [], _, _ => by simp [cnt]
  | a :: r, h, x => by
    have hr := (List.pairwise_cons.1 h)
    by_cases ha : a < x
    · have e : cnt (a :: r) x = cnt r x + 1 := by simp [cnt, ha]
      have ih := cnt_split hr.2 x
      rw [e]
      refine ⟨fun y hy => ?_, fun y hy => ih.2 y (by simpa using hy)⟩
      rw [List.take_succ_cons] at hy
      rcases List.mem_cons.1 hy with rfl | hy
      · exact ha
      · exact ih.1 y hy
    · have e0 : r.countP (· < x) = 0 := by
        rw [List.countP_eq_zero]
        intro y hy
        have := hr.1 y hy
        simp; omega
      have e : cnt (a :: r) x = 0 := by simp only [cnt, List.countP_cons, e0]; simp; omega
      rw [e]
      refine ⟨by simp, fun y hy => ?_⟩
      rcases List.mem_cons.1 (by simpa using hy) with rfl | hy
      · omega
      · have := hr.1 y hy; omega

theorem ins_mem (l : List Int) (x y : Int) : y ∈ ins l x ↔ y = x ∨ y ∈ l := by
  unfold ins insAt
  rw [List.mem_append, List.mem_cons]
  have : y ∈ l ↔ y ∈ l.take (cnt l x) ∨ y ∈ l.drop (cnt l x) := by rw [← List.mem_append, List.take_append_drop]
  rw [this]
  constructor
  · rintro (h | h | h)
    · exact .inr (.inl h)
    · exact .inl h
    · exact .inr (.inr h)
  · rintro (h | h | h)
    · exact .inr (.inl h)
    · exact .inl h
    · exact .inr (.inr h)

theorem ins_perm (l : List Int) (x : Int) : (ins l x).Perm (x :: l) := by
  unfold ins insAt
  refine (List.perm_middle).trans ?_
  rw [List.take_append_drop]

theorem ins_up {l : List Int} (h : l.Pairwise (· < ·)) {x : Int} (hx : x ∉ l) : (ins l x).Pairwise (· < ·) := by
  obtain ⟨h1, h2⟩ := cnt_split h x
  unfold ins insAt
  have e := h
  rw [← List.take_append_drop (cnt l x) l] at e
  rw [List.pairwise_append] at e ⊢
  obtain ⟨e1, e2, e3⟩ := e
  refine ⟨e1, ?_, ?_⟩
  · rw [List.pairwise_cons]
    refine ⟨fun y hy => ?_, e2⟩
    have := h2 y hy
    have hne : y ≠ x := fun e => hx (e ▸ List.mem_of_mem_drop hy)
    omega
  · intro a ha b hb
    have hax := h1 a ha
    rcases List.mem_cons.1 hb with rfl | hb
    · exact hax
    · exact e3 a ha b hb

theorem cnt_at {l : List Int} (h : l.Pairwise (· < ·)) {x : Int} (hx : x ∈ l) : ∃ hlt : cnt l x < l.length, l[cnt l x] = x := by
  obtain ⟨h1, h2⟩ := cnt_split h x
  have hd : x ∈ l.drop (cnt l x) := by
    rw [← List.take_append_drop (cnt l x) l] at hx
    rcases List.mem_append.1 hx with h3 | h3
    · have := h1 x h3; omega
    · exact h3
  have hlt : cnt l x < l.length := by
    apply Classical.byContradiction
    intro h3
    rw [List.drop_eq_nil_of_le (by omega)] at hd; cases hd
  refine ⟨hlt, ?_⟩
  have hp := h
  rw [← List.take_append_drop (cnt l x) l, List.pairwise_append] at hp
  have hp2 := hp.2.1
  rw [List.drop_eq_getElem_cons hlt] at hd hp2 h2
  rcases List.mem_cons.1 hd with h3 | h3
  · exact h3.symm
  · have h4 := (List.pairwise_cons.1 hp2).1 x h3
    have h5 := h2 l[cnt l x] (List.mem_cons_self)
    omega

theorem del_eq {l : List Int} (h : l.Pairwise (· < ·)) {x : Int} (hx : x ∈ l) : del l x = l.filter (fun y => y != x) := by
  obtain ⟨hlt, he⟩ := cnt_at h hx
  unfold del
  rw [List.eraseIdx_eq_take_drop_succ]
  have hp := h
  have e : l = l.take (cnt l x) ++ l[cnt l x] :: l.drop (cnt l x + 1) := by rw [← List.drop_eq_getElem_cons hlt, List.take_append_drop]
  rw [he] at e
  generalize l.take (cnt l x) = a at *
  generalize l.drop (cnt l x + 1) = b at *
  clear he hlt
  rw [e] at hp ⊢
  rw [List.filter_append, List.filter_cons]
  simp only [bne_self_eq_false, Bool.false_eq_true, if_false]
  rw [List.pairwise_append] at hp
  congr 1
  · symm; rw [List.filter_eq_self]
    intro y hy
    have := hp.2.2 y hy x (by simp)
    simp; omega
  · symm; rw [List.filter_eq_self]
    intro y hy
    have := (List.pairwise_cons.1 hp.2.1).1 y hy
    simp; omega

theorem del_length {l : List Int} (h : l.Pairwise (· < ·)) {x : Int} (hx : x ∈ l) : (del l x).length = l.length - 1 := by
  obtain ⟨hlt, _⟩ := cnt_at h hx
  unfold del; rw [List.length_eraseIdx, if_pos hlt]

theorem sDrop_eq {l : List Int} (h : l.Pairwise (· < ·)) (x : Int) : sDrop l x = l.filter (fun y => y != x) := by
  unfold sDrop
  split
  · rename_i hc
    exact del_eq h ((has_iff _ _).1 hc)
  · rename_i hc
    symm; rw [List.filter_eq_self]
    intro y hy
    have : y ≠ x := fun e => hc ((has_iff _ _).2 (e ▸ hy))
    simpa using this

theorem Good.drop {l : List Int} {m : Int} (h : Good l m) (x : Int) : Good (sDrop l x) m := by
  rw [sDrop_eq h.up]
  exact ⟨h.up.filter _, fun y hy => h.node y (List.mem_filter.1 hy).1, by have := List.length_filter_le (fun y => y != x) l; have := h.fit; omega, h.most, h.least⟩
theorem Good.add {l : List Int} {m : Int} (h : Good l m) (x : Int) : Good (sAdd l m x) m := by
  unfold sAdd
  split
  · exact h
  · rename_i hc
    split
    · rename_i hx
      refine ⟨ins_up h.up (fun hm => hc ((has_iff _ _).2 hm)), fun y hy => ?_, by rw [ins_length]; omega, h.most, h.least⟩
      rcases (ins_mem l x y).1 hy with rfl | hy
      · exact ⟨hx.1, hx.2.1⟩
      · exact h.node y hy
    · exact h
theorem Good.nil {m : Int} (h0 : 0 ≤ m) (h1 : m ≤ 64) : Good [] m := ⟨List.Pairwise.nil, (fun x h => by cases h), by simpa using h0, h1, h0⟩
end Go.Proofs.Ytelepohdfcjnfaa
