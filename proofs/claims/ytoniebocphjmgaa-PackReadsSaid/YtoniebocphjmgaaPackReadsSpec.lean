/-
  PackReads in plain Lean: what acts read of bytes.
-/
import Derived.Test.YtoniebocphjmgaaPackSpec
namespace Go.Proofs.Ytoniebocphjmgaa
open Go.RowKit Go.Proofs

/-- how many bytes stand ahead of the piece, and how many it has -/
def actAhead (a : Int) : Nat := if a = 9 then 1 else 0
def actSize (a : Int) (s : ByteArray) : Int := if a = 9 then (getNum (s.extract 0 1).data.toList : Nat) else if 9 < a then a - 10 else a
/-- what is wrong with an act; 0: nothing -/
def actBad (a : Int) (s : ByteArray) : Int := if a < 1 then 11 else if a = 9 ∧ s.size < 1 then 2 else if (s.size : Int) < actAhead a + actSize a s then 2 else 0
def actPiece (a : Int) (s : ByteArray) : ByteArray := s.extract (actAhead a) (actAhead a + (actSize a s).toNat)
def actRest (a : Int) (s : ByteArray) : ByteArray := s.extract (actAhead a + (actSize a s).toNat) s.size

/-- all acts: the pieces, the error, the rest -/
def reads : List Int → ByteArray → List ByteArray × Int × ByteArray
  | [], s => ([], 0, s)
  | a :: l, s => if actBad a s = 0 then (actPiece a s :: (reads l (actRest a s)).1, (reads l (actRest a s)).2) else ([], actBad a s, s)

theorem reads_stop {a : Int} {l : List Int} {s : ByteArray} (h : actBad a s ≠ 0) : reads (a :: l) s = ([], actBad a s, s) := by
  unfold reads; rw [if_neg h]
theorem reads_go {a : Int} {l : List Int} {s : ByteArray} (h : actBad a s = 0) : reads (a :: l) s = (actPiece a s :: (reads l (actRest a s)).1, (reads l (actRest a s)).2) := by
  rw [reads, if_pos h]

theorem drop_act {l : List Int} {i : Nat} (h : i < l.length) : l.drop i = l[i] :: l.drop (i + 1) := List.drop_eq_getElem_cons h

theorem actRest_size (a : Int) (s : ByteArray) : (actRest a s).size ≤ s.size := by simp [actRest]

theorem actBad_cases (a : Int) (s : ByteArray) : actBad a s = 0 ∨ actBad a s = 11 ∨ actBad a s = 2 := by
  unfold actBad
  split
  · exact .inr (.inl rfl)
  · split
    · exact .inr (.inr rfl)
    · split
      · exact .inr (.inr rfl)
      · exact .inl rfl

theorem reads_bad (l : List Int) : ∀ s, (reads l s).2.1 = 0 ∨ (reads l s).2.1 = 11 ∨ (reads l s).2.1 = 2 := by
  induction l with
  | nil => intro s; exact .inl rfl
  | cons a l ih =>
    intro s
    by_cases h : actBad a s = 0
    · rw [reads_go h]; exact ih _
    · rw [reads_stop h]; exact actBad_cases a s

theorem reads_length (l : List Int) : ∀ s, (reads l s).1.length ≤ l.length := by
  induction l with
  | nil => intro s; simp [reads]
  | cons a l ih =>
    intro s
    by_cases h : actBad a s = 0
    · rw [reads_go h]; have := ih (actRest a s); simp; omega
    · rw [reads_stop h]; simp

theorem first_byte (s : ByteArray) (h : 0 < s.size) : getNum (s.extract 0 1).data.toList = s[0].toNat := by
  obtain ⟨⟨l⟩⟩ := s
  cases l with
  | nil => simp [ByteArray.size] at h
  | cons x r => simp [getNum, ByteArray.extract, ByteArray.copySlice]; rfl

theorem actBad_some {a : Int} {s : ByteArray} (h1 : ¬ a < 1) (h2 : ¬ (a = 9 ∧ s.size < 1)) : actBad a s = if (s.size : Int) < actAhead a + actSize a s then 2 else 0 := by
  unfold actBad; rw [if_neg h1, if_neg h2]

end Go.Proofs.Ytoniebocphjmgaa
