/-
  What package pack's writer writes, in plain Lean.
-/
import Derived.Test.YtoniebocphjmgaaBase
namespace Go.Proofs.Ytoniebocphjmgaa
open Go.RowKit Go.Proofs

/-- so many bytes of a number, the highest first -/
def bigEnd : Nat → Nat → List UInt8
  | 0, _ => []
  | k + 1, n => UInt8.ofNat (n / 256 ^ k) :: bigEnd k n

theorem bigEnd_length (k n : Nat) : (bigEnd k n).length = k := by
  induction k with
  | zero => rfl
  | succ k ih => simp [bigEnd, ih]

/-- a number fits into so many bytes, from one to eight -/
def NumOk (n : Nat) (size : Int) : Prop := 1 ≤ size ∧ size ≤ 8 ∧ n < 256 ^ size.toNat

theorem bytes_join (j : Nat) (bs bs' : List Value) (n : Nat) (h : bs' ++ (bigEnd (j + 1) n).map (fun b => Value.int .u8 b.toNat) = bs) : bs' ++ [.int .u8 (UInt8.ofNat (n / 256 ^ j)).toNat] ++ (bigEnd j n).map (fun b => Value.int .u8 b.toNat) = bs := by
  rw [← h]; simp [bigEnd]

theorem byte_of (n j : Nat) : ((UInt8.ofNat (n / 256 ^ j)).toNat : Int) = ((n : Int) / 2 ^ (8 * j)) % 256 := by
  have h : (2 : Int) ^ (8 * j) = ((256 ^ j : Nat) : Int) := by
    rw [show (256 : Nat) = 2 ^ 8 by decide, ← Nat.pow_mul]; simp
  rw [h, ← Int.natCast_ediv]
  simp [UInt8.toNat_ofNat']

theorem pow_fits (m s : Nat) : (m : Int) / 2 ^ (8 * (s : Int)).toNat = 0 ↔ m < 256 ^ s := by
  have h : (8 * (s : Int)).toNat = 8 * s := by omega
  rw [h]
  have h2 : (2 : Int) ^ (8 * s) = ((256 ^ s : Nat) : Int) := by
    rw [show (256 : Nat) = 2 ^ 8 by decide, ← Nat.pow_mul]; simp
  rw [h2, ← Int.natCast_ediv]
  have h3 : 0 < 256 ^ s := Nat.pow_pos (by omega)
  constructor
  · intro h
    have h' : m / 256 ^ s = 0 := by exact_mod_cast h
    rcases Nat.div_eq_zero_iff.1 h' with h4 | h4
    · omega
    · exact h4
  · intro h
    rw [Nat.div_eq_of_lt h]; rfl

/-- the number of bytes, the highest first -/
def getNum (l : List UInt8) : Nat := l.foldl (fun n b => 256 * n + b.toNat) 0

theorem getNum_snoc (l : List UInt8) (b : UInt8) : getNum (l ++ [b]) = 256 * getNum l + b.toNat := by simp [getNum]

theorem getNum_acc (l : List UInt8) : ∀ a : Nat, l.foldl (fun n b => 256 * n + b.toNat) a < (a + 1) * 256 ^ l.length := by
  induction l with
  | nil => intro a; simp
  | cons b l ih =>
    intro a
    have h := ih (256 * a + b.toNat)
    have hb := b.toNat_lt
    simp only [List.foldl_cons, List.length_cons, Nat.pow_succ]
    refine Nat.lt_of_lt_of_le h ?_
    rw [Nat.mul_comm (256 ^ l.length) 256, ← Nat.mul_assoc]
    exact Nat.mul_le_mul_right _ (by omega)

theorem getNum_lt (l : List UInt8) : getNum l < 256 ^ l.length := by
  have := getNum_acc l 0
  simpa [getNum] using this

end Go.Proofs.Ytoniebocphjmgaa
