/-
  PackWrites in plain Lean: what parts write.
-/
import Derived.Test.YtoniebocphjmgaaPackRefNum
import Derived.Test.YtoniebocphjmgaaPart
namespace Go.Proofs.Ytoniebocphjmgaa
open Go.RowKit Go.Proofs

def partKind (p : Part) : Int := ((p.what.tmod 4) + 4).tmod 4
/-- what is wrong with a part; 0: nothing -/
def partBad (p : Part) : Int :=
  if partKind p = 0 then (if numBytes p.n.toNat p.size = [] then 11 else 0)
  else if partKind p = 1 then (if 255 < p.text.size then 3 else 0)
  else if partKind p = 2 then 0
  else if 0 < p.size ∧ p.size < 17 then p.size else 4
def partBytes (p : Part) : List UInt8 :=
  if partKind p = 0 then numBytes p.n.toNat p.size
  else if partKind p = 1 then UInt8.ofNat p.text.size :: p.text.data.toList
  else p.text.data.toList

/-- all parts: the bytes, the error -/
def writes : List Part → List UInt8 × Int
  | [] => ([], 0)
  | p :: l => if partBad p = 0 then (partBytes p ++ (writes l).1, (writes l).2) else ([], partBad p)

/-- the place of the last part that is looked at; none: -1 -/
def lastPart : List Part → Int
  | [] => -1
  | p :: l => if partBad p = 0 then 1 + lastPart l else 0

theorem last_stop {p : Part} {l : List Part} (h : partBad p ≠ 0) : lastPart (p :: l) = 0 := by
  rw [lastPart, if_neg h]
theorem last_go {p : Part} {l : List Part} (h : partBad p = 0) : lastPart (p :: l) = 1 + lastPart l := by
  rw [lastPart, if_pos h]
theorem last_range (l : List Part) : -1 ≤ lastPart l ∧ lastPart l < l.length ∧ (l ≠ [] → 0 ≤ lastPart l) := by
  induction l with
  | nil => exact ⟨by decide, by decide, fun h => absurd rfl h⟩
  | cons p l ih =>
    by_cases h : partBad p = 0
    · rw [last_go h]; simp only [List.length_cons]; exact ⟨by omega, by omega, fun _ => by omega⟩
    · rw [last_stop h]; simp only [List.length_cons]; exact ⟨by omega, by omega, fun _ => by omega⟩

theorem writes_stop {p : Part} {l : List Part} (h : partBad p ≠ 0) : writes (p :: l) = ([], partBad p) := by
  rw [writes, if_neg h]
theorem writes_go {p : Part} {l : List Part} (h : partBad p = 0) : writes (p :: l) = (partBytes p ++ (writes l).1, (writes l).2) := by
  rw [writes, if_pos h]

theorem drop_part {l : List Part} {i : Nat} (h : i < l.length) : l.drop i = l[i] :: l.drop (i + 1) := List.drop_eq_getElem_cons h

theorem tmod4 (x : Int) : -3 ≤ x.tmod 4 ∧ x.tmod 4 ≤ 3 := by
  have h1 := Int.tmod_lt_of_pos x (show (0 : Int) < 4 by decide)
  have h2 := Int.lt_tmod_of_pos x (show (0 : Int) < 4 by decide)
  omega
theorem kind_eq (p : Part) : partKind p = (p.what.tmod 4 + 4) % 4 := by
  have := tmod4 p.what
  unfold partKind
  rw [Int.tmod_eq_emod_of_nonneg (by omega)]
theorem kind_range (p : Part) : 0 ≤ partKind p ∧ partKind p ≤ 3 := by
  rw [kind_eq]; omega

theorem bytes_nil_or (n : Nat) (size : Int) : numBytes n size = [] ↔ ¬ NumOk n size := by
  unfold numBytes NumOk
  constructor
  · intro h hok
    rw [if_pos hok] at h
    have := bigEnd_length size.toNat n
    rw [h] at this
    have := hok.1
    simp at *
    omega
  · intro h; rw [if_neg h]
theorem bytes_ok {n : Nat} {size : Int} (h : NumOk n size) : numBytes n size = bigEnd size.toNat n := by
  unfold numBytes; unfold NumOk at h; rw [if_pos h]
theorem bytes_len (n : Nat) (size : Int) : (numBytes n size).length ≤ 8 := by
  unfold numBytes
  split
  · rename_i h; rw [bigEnd_length]; omega
  · simp
theorem part_len (p : Part) (h : p.text.size ≤ 1048576) : (partBytes p).length ≤ 1048577 := by
  unfold partBytes
  have := bytes_len p.n.toNat p.size
  split
  · omega
  · split
    · simp; omega
    · simp; omega
end Go.Proofs.Ytoniebocphjmgaa
