/-
  The protocol of two hands over two ordered ways: what is on the way where one of them alone is active to the other.
-/
import Derived.Test.YtelepohdfcjnfaaHandLaw
namespace Go.Proofs.Ytelepohdfcjnfaa
open Go.RowKit Go.Proofs

inductive PLet | lAsk | lYes | lNo | lBye | lBrk
deriving DecidableEq
namespace PairLaw
open PLet
def yts (s : Bool) : List PLet → Bool
  | [] => s
  | lAsk :: t => yts s t
  | lYes :: t => yts true t
  | _ :: t => yts false t
def yt (l : List PLet) : Bool := yts false l
def Quiet (w : List PLet) : Prop := lNo ∉ w ∧ lBye ∉ w ∧ lBrk ∉ w
structure PI (a k a' k' : Prop) (w w' : List PLet) : Prop where
  j1 : a → Quiet w' → a' ∨ lAsk ∈ w ∨ yt w = true
  j3b : ∀ t, lBye :: t <:+ w → (a → lAsk ∈ t ∨ yt t = true) ∧ (k → lAsk ∈ t)
  j3x : lBrk ∉ w' → ∀ t, lBrk :: t <:+ w → (a → lAsk ∈ t ∨ yt t = true) ∧ (k → lAsk ∈ t)
  j2 : lBrk ∉ w' → yt w = true → k' → a ∨ lAsk ∈ w'
  j5 : lBrk ∉ w.tail
  j6 : lBrk ∈ w' → lYes ∉ w ∧ lNo ∉ w
def Both (a k a' k' : Prop) (w w' : List PLet) : Prop := PI a k a' k' w w' ∧ PI a' k' a k w' w
theorem yts_push (s : Bool) (l : List PLet) (x : PLet) : yts s (l ++ [x]) = (match x with | lAsk => yts s l | lYes => true | _ => false) := by
  induction l generalizing s with
  | nil => cases x <;> rfl
  | cons y t ih => cases y <;> exact ih _
theorem yt_push (l : List PLet) (x : PLet) : yt (l ++ [x]) = (match x with | lAsk => yt l | lYes => true | _ => false) := yts_push _ _ _
theorem yts_up (l : List PLet) (h : yts false l = true) : yts true l = true := by
  induction l with
  | nil => cases h
  | cons y t ih => cases y <;> first | exact h | exact ih h
theorem yts_or (l : List PLet) (h : yts true l = true) : yts false l = true ∨ Quiet l := by
  induction l with
  | nil => exact .inr ⟨by simp, by simp, by simp⟩
  | cons y t ih =>
    cases y
    · rcases ih h with h | ⟨h1, h2, h3⟩
      · exact .inl h
      · exact .inr ⟨by simpa using h1, by simpa using h2, by simpa using h3⟩
    · exact .inl h
    all_goals exact .inl h
theorem suf_push (c x : PLet) (t w : List PLet) : c :: t <:+ w ++ [x] ↔ (∃ t', t = t' ++ [x] ∧ c :: t' <:+ w) ∨ (t = [] ∧ c = x) := by
  rw [List.suffix_concat_iff]
  constructor
  · rintro (h | ⟨u, h1, h2⟩)
    · cases h
    · cases u with
      | nil => simp at h1; exact .inr ⟨h1.2, h1.1⟩
      | cons y u =>
        simp at h1
        obtain ⟨rfl, rfl⟩ := h1
        exact .inl ⟨u, rfl, h2⟩
  · rintro (⟨t', rfl, h⟩ | ⟨rfl, rfl⟩)
    · exact .inr ⟨c :: t', rfl, h⟩
    · exact .inr ⟨[], rfl, List.nil_suffix⟩
theorem suf_mem {c : PLet} {t w : List PLet} (h : c :: t <:+ w) : c ∈ w := h.subset List.mem_cons_self
theorem tail_push (w : List PLet) (x : PLet) (h : x ≠ lBrk) (hj : lBrk ∉ w.tail) : lBrk ∉ (w ++ [x]).tail := by
  cases w with
  | nil => simp
  | cons y t => simp at hj ⊢; exact ⟨hj, fun e => h e.symm⟩
theorem yt_ask (t : List PLet) : yt (lAsk :: t) = yt t := rfl
theorem yt_no (t : List PLet) : yt (lNo :: t) = yt t := rfl
theorem yt_bye (t : List PLet) : yt (lBye :: t) = yt t := rfl
theorem yt_brk (t : List PLet) : yt (lBrk :: t) = yt t := rfl
theorem yt_yes1 (t : List PLet) (h : yt t = true) : yt (lYes :: t) = true := yts_up t h
theorem yt_yes2 (t : List PLet) (h : yt (lYes :: t) = true) : yt t = true ∨ Quiet t := yts_or t h
theorem yt_yes3 (t : List PLet) (h : Quiet t) : yt (lYes :: t) = true := by
  show yts true t = true
  induction t with
  | nil => rfl
  | cons y t ih =>
    have hq : Quiet t := ⟨fun e => h.1 (List.mem_cons_of_mem _ e), fun e => h.2.1 (List.mem_cons_of_mem _ e), fun e => h.2.2 (List.mem_cons_of_mem _ e)⟩
    cases y
    · exact ih hq
    · exact ih hq
    · exact absurd List.mem_cons_self h.1
    · exact absurd List.mem_cons_self h.2.1
    · exact absurd List.mem_cons_self h.2.2
theorem yt_mem (t : List PLet) (h : yt t = true) : lYes ∈ t := by
  induction t with
  | nil => cases h
  | cons y t ih =>
    cases y
    · exact List.mem_cons_of_mem _ (ih h)
    · exact List.mem_cons_self
    · exact List.mem_cons_of_mem _ (ih h)
    · exact List.mem_cons_of_mem _ (ih h)
    · exact List.mem_cons_of_mem _ (ih h)
theorem yt_pushYes (l : List PLet) : yt (l ++ [lYes]) = true := yt_push l lYes
theorem suf_head (c d : PLet) (t w : List PLet) : c :: t <:+ d :: w ↔ (c = d ∧ t = w) ∨ c :: t <:+ w := by
  rw [List.suffix_cons_iff]
  simp
theorem q_push (w : List PLet) (x : PLet) : Quiet (w ++ [x]) ↔ Quiet w ∧ x ≠ lNo ∧ x ≠ lBye ∧ x ≠ lBrk := by
  unfold Quiet
  simp only [List.mem_append, List.mem_singleton]
  grind
theorem q_head (w : List PLet) (x : PLet) : Quiet (x :: w) ↔ Quiet w ∧ x ≠ lNo ∧ x ≠ lBye ∧ x ≠ lBrk := by
  unfold Quiet
  simp only [List.mem_cons]
  grind
theorem t_ask {a k a' k' : Prop} {w w' : List PLet} (h : Both a k a' k' w w') (h0 : ¬ a) : Both a True a' k' (w ++ [lAsk]) w' := by
  obtain ⟨⟨j1, j3b, j3x, j2, j5, j6⟩, ⟨i1, i3b, i3x, i2, i5, i6⟩⟩ := h
  refine ⟨⟨?_, ?_, ?_, ?_, ?_, ?_⟩, ⟨?_, ?_, ?_, ?_, ?_, ?_⟩⟩
  all_goals try simp only [yt_push, suf_push, q_push, List.mem_append, List.mem_cons] at *
  all_goals grind [tail_push, Quiet, yt_yes1, yt_yes2, yt_yes3, yt_mem, yt_pushYes, suf_mem, List.mem_of_mem_tail]
theorem t_evict {a k a' k' : Prop} {w w' : List PLet} (h : Both a k a' k' w w') : Both False False a' k' (w ++ [lBye]) w' := by
  obtain ⟨⟨j1, j3b, j3x, j2, j5, j6⟩, ⟨i1, i3b, i3x, i2, i5, i6⟩⟩ := h
  refine ⟨⟨?_, ?_, ?_, ?_, ?_, ?_⟩, ⟨?_, ?_, ?_, ?_, ?_, ?_⟩⟩
  all_goals try simp only [yt_push, suf_push, q_push, List.mem_append, List.mem_cons] at *
  all_goals grind [tail_push, Quiet, yt_yes1, yt_yes2, yt_yes3, yt_mem, yt_pushYes, suf_mem, List.mem_of_mem_tail]
theorem t_asked {a k a' k' : Prop} {w t : List PLet} (h : Both a k a' k' w (lAsk :: t)) : Both True k a' k' (w ++ [lYes]) t := by
  obtain ⟨⟨j1, j3b, j3x, j2, j5, j6⟩, ⟨i1, i3b, i3x, i2, i5, i6⟩⟩ := h
  refine ⟨⟨?_, ?_, ?_, ?_, ?_, ?_⟩, ⟨?_, ?_, ?_, ?_, ?_, ?_⟩⟩
  all_goals try simp only [yt_push, suf_push, suf_head, q_push, q_head, yt_ask, List.tail_cons, List.mem_append, List.mem_cons] at *
  all_goals grind [tail_push, Quiet, yt_yes1, yt_yes2, yt_yes3, yt_mem, yt_pushYes, suf_mem, List.mem_of_mem_tail]
theorem t_askNo {a k a' k' : Prop} {w t : List PLet} (h : Both a k a' k' w (lAsk :: t)) (h0 : ¬ a) : Both a k a' k' (w ++ [lNo]) t := by
  obtain ⟨⟨j1, j3b, j3x, j2, j5, j6⟩, ⟨i1, i3b, i3x, i2, i5, i6⟩⟩ := h
  refine ⟨⟨?_, ?_, ?_, ?_, ?_, ?_⟩, ⟨?_, ?_, ?_, ?_, ?_, ?_⟩⟩
  all_goals try simp only [yt_push, suf_push, suf_head, q_push, q_head, yt_ask, List.tail_cons, List.mem_append, List.mem_cons] at *
  all_goals grind [tail_push, Quiet, yt_yes1, yt_yes2, yt_yes3, yt_mem, yt_pushYes, suf_mem, List.mem_of_mem_tail]
theorem t_yes {a k a' k' : Prop} {w t : List PLet} (h : Both a k a' k' w (lYes :: t)) (h0 : k) : Both True False a' k' w t := by
  obtain ⟨⟨j1, j3b, j3x, j2, j5, j6⟩, ⟨i1, i3b, i3x, i2, i5, i6⟩⟩ := h
  refine ⟨⟨?_, ?_, ?_, ?_, ?_, ?_⟩, ⟨?_, ?_, ?_, ?_, ?_, ?_⟩⟩
  all_goals try simp only [suf_head, q_head, List.tail_cons, List.mem_cons] at *
  all_goals grind [tail_push, Quiet, yt_yes1, yt_yes2, yt_yes3, yt_mem, yt_pushYes, suf_mem, List.mem_of_mem_tail]
theorem t_yes0 {a k a' k' : Prop} {w t : List PLet} (h : Both a k a' k' w (lYes :: t)) (h0 : a) (h1 : ¬ k) : Both a k a' k' w t := by
  obtain ⟨⟨j1, j3b, j3x, j2, j5, j6⟩, ⟨i1, i3b, i3x, i2, i5, i6⟩⟩ := h
  refine ⟨⟨?_, ?_, ?_, ?_, ?_, ?_⟩, ⟨?_, ?_, ?_, ?_, ?_, ?_⟩⟩
  all_goals try simp only [suf_head, q_head, List.tail_cons, List.mem_cons] at *
  all_goals grind [tail_push, Quiet, yt_yes1, yt_yes2, yt_yes3, yt_mem, yt_pushYes, suf_mem, List.mem_of_mem_tail]
theorem t_yesB {a k a' k' : Prop} {w t : List PLet} (h : Both a k a' k' w (lYes :: t)) (h0 : ¬ a) (h1 : ¬ k) : Both a k a' k' (w ++ [lBye]) t := by
  obtain ⟨⟨j1, j3b, j3x, j2, j5, j6⟩, ⟨i1, i3b, i3x, i2, i5, i6⟩⟩ := h
  refine ⟨⟨?_, ?_, ?_, ?_, ?_, ?_⟩, ⟨?_, ?_, ?_, ?_, ?_, ?_⟩⟩
  all_goals try simp only [yt_push, suf_push, suf_head, q_push, q_head, List.tail_cons, List.mem_append, List.mem_cons] at *
  all_goals grind [tail_push, Quiet, yt_yes1, yt_yes2, yt_yes3, yt_mem, yt_pushYes, suf_mem, List.mem_of_mem_tail]
theorem t_noB {a k a' k' : Prop} {w t : List PLet} (h : Both a k a' k' w (lNo :: t)) : Both False False a' k' (w ++ [lBye]) t := by
  obtain ⟨⟨j1, j3b, j3x, j2, j5, j6⟩, ⟨i1, i3b, i3x, i2, i5, i6⟩⟩ := h
  refine ⟨⟨?_, ?_, ?_, ?_, ?_, ?_⟩, ⟨?_, ?_, ?_, ?_, ?_, ?_⟩⟩
  all_goals try simp only [yt_push, suf_push, suf_head, q_push, q_head, yt_no, List.tail_cons, List.mem_append, List.mem_cons] at *
  all_goals grind [tail_push, Quiet, yt_yes1, yt_yes2, yt_yes3, yt_mem, yt_pushYes, suf_mem, List.mem_of_mem_tail]
theorem t_no {a k a' k' : Prop} {w t : List PLet} (h : Both a k a' k' w (lNo :: t)) (h0 : ¬ a) : Both a False a' k' w t := by
  obtain ⟨⟨j1, j3b, j3x, j2, j5, j6⟩, ⟨i1, i3b, i3x, i2, i5, i6⟩⟩ := h
  refine ⟨⟨?_, ?_, ?_, ?_, ?_, ?_⟩, ⟨?_, ?_, ?_, ?_, ?_, ?_⟩⟩
  all_goals try simp only [suf_head, q_head, yt_no, List.tail_cons, List.mem_cons] at *
  all_goals grind [tail_push, Quiet, yt_yes1, yt_yes2, yt_yes3, yt_mem, yt_pushYes, suf_mem, List.mem_of_mem_tail]
theorem t_bye {a k a' k' : Prop} {w t : List PLet} (h : Both a k a' k' w (lBye :: t)) : Both False k a' k' w t := by
  obtain ⟨⟨j1, j3b, j3x, j2, j5, j6⟩, ⟨i1, i3b, i3x, i2, i5, i6⟩⟩ := h
  refine ⟨⟨?_, ?_, ?_, ?_, ?_, ?_⟩, ⟨?_, ?_, ?_, ?_, ?_, ?_⟩⟩
  all_goals try simp only [suf_head, q_head, yt_bye, List.tail_cons, List.mem_cons] at *
  all_goals grind [tail_push, Quiet, yt_yes1, yt_yes2, yt_yes3, yt_mem, yt_pushYes, suf_mem, List.mem_of_mem_tail]
theorem t_brk {a k a' k' : Prop} {w t : List PLet} (h : Both a k a' k' w (lBrk :: t)) : Both False False a' k' w t := by
  obtain ⟨⟨j1, j3b, j3x, j2, j5, j6⟩, ⟨i1, i3b, i3x, i2, i5, i6⟩⟩ := h
  refine ⟨⟨?_, ?_, ?_, ?_, ?_, ?_⟩, ⟨?_, ?_, ?_, ?_, ?_, ?_⟩⟩
  all_goals try simp only [suf_head, q_head, yt_brk, List.tail_cons, List.mem_cons] at *
  all_goals grind [tail_push, Quiet, yt_yes1, yt_yes2, yt_yes3, yt_mem, yt_pushYes, suf_mem, List.mem_of_mem_tail]
theorem t_break {a k a' k' : Prop} : Both a k a' k' [lBrk] [lBrk] := by
  refine ⟨⟨?_, ?_, ?_, ?_, ?_, ?_⟩, ⟨?_, ?_, ?_, ?_, ?_, ?_⟩⟩
  all_goals simp [Quiet, yt, yts, suf_head]
theorem t_start : Both False False False False [] [] := by
  refine ⟨⟨?_, ?_, ?_, ?_, ?_, ?_⟩, ⟨?_, ?_, ?_, ?_, ?_, ?_⟩⟩
  all_goals simp [Quiet, yt, yts]
theorem t_rest {a k a' k' : Prop} (h : Both a k a' k' [] []) (ha : a) : a' := by
  rcases h.1.j1 ha ⟨by simp, by simp, by simp⟩ with h | h | h
  · exact h
  · simp at h
  · cases h
end PairLaw
end Go.Proofs.Ytelepohdfcjnfaa
