/-
  What package pack's writer writes, in plain Lean.
-/
import Derived.Test.YtkclgemkeifbaaaBase
import Derived.Laws.Bits64
import Derived.Laws.BitsLemmas
namespace Go.Proofs.Ytkclgemkeifbaaa
open Go.RowKit Go.Proofs

/-- so many bytes of a number, the highest first -/
def bigEnd : Nat → Nat → List UInt8
  | 0, _ => []
  | k + 1, n => UInt8.ofNat (n / 256 ^ k) :: bigEnd k n

theorem bigEnd_length (k n : Nat) : (bigEnd k n).length = k := by
  induction k with
  | zero => rfl
  | succ k ih => simp [bigEnd, ih]

/-- a number fits into so many bytes, from one to eight -/
def NumOk (n : Nat) (size : Int) : Prop := 1 ≤ size ∧ size ≤ 8 ∧ n < 256 ^ size.toNat

theorem bytes_join (j : Nat) (bs bs' : List Value) (n : Nat) (h : bs' ++ (bigEnd (j + 1) n).map (fun b => Value.int .u8 b.toNat) = bs) : bs' ++ [.int .u8 (UInt8.ofNat (n / 256 ^ j)).toNat] ++ (bigEnd j n).map (fun b => Value.int .u8 b.toNat) = bs := by
  rw [← h]; simp [bigEnd]

theorem byte_of (n j : Nat) : ((UInt8.ofNat (n / 256 ^ j)).toNat : Int) = ((n : Int) / 2 ^ (8 * j)) % 256 := by
  have h : (2 : Int) ^ (8 * j) = ((256 ^ j : Nat) : Int) := by
    rw [show (256 : Nat) = 2 ^ 8 by decide, ← Nat.pow_mul]; simp
  rw [h, ← Int.natCast_ediv]
  simp [UInt8.toNat_ofNat']

theorem pow_fits (m s : Nat) : (m : Int) / 2 ^ (8 * (s : Int)).toNat = 0 ↔ m < 256 ^ s := by
  have h : (8 * (s : Int)).toNat = 8 * s := by omega
  rw [h]
  have h2 : (2 : Int) ^ (8 * s) = ((256 ^ s : Nat) : Int) := by
    rw [show (256 : Nat) = 2 ^ 8 by decide, ← Nat.pow_mul]; simp
  rw [h2, ← Int.natCast_ediv]
  have h3 : 0 < 256 ^ s := Nat.pow_pos (by omega)
  constructor
  · intro h
    have h' : m / 256 ^ s = 0 := by exact_mod_cast h
    rcases Nat.div_eq_zero_iff.1 h' with h4 | h4
    · omega
    · exact h4
  · intro h
    rw [Nat.div_eq_of_lt h]; rfl

/-- the number of bytes, the highest first -/
def getNum (l : List UInt8) : Nat := l.foldl (fun n b => 256 * n + b.toNat) 0

theorem getNum_snoc (l : List UInt8) (b : UInt8) : getNum (l ++ [b]) = 256 * getNum l + b.toNat := by simp [getNum]

theorem getNum_acc (l : List UInt8) : ∀ a : Nat, l.foldl (fun n b => 256 * n + b.toNat) a < (a + 1) * 256 ^ l.length := by
  induction l with
  | nil => intro a; simp
  | cons b l ih =>
    intro a
    have h := ih (256 * a + b.toNat)
    have hb := b.toNat_lt
    simp only [List.foldl_cons, List.length_cons, Nat.pow_succ]
    refine Nat.lt_of_lt_of_le h ?_
    rw [Nat.mul_comm (256 ^ l.length) 256, ← Nat.mul_assoc]
    exact Nat.mul_le_mul_right _ (by omega)

theorem getNum_lt (l : List UInt8) : getNum l < 256 ^ l.length := by
  have := getNum_acc l 0
  simpa [getNum] using this

theorem mask_u64 (a : Int) (i : Nat) (h0 : 0 ≤ a) (h1 : a < 18446744073709551616) (hi : i < 64) : bits .and .u64 a (IntKind.u64.wrap (IntKind.u64.wrap (2 ^ i) - 1)) = a % 2 ^ i := by
  have hp : (2 : Int) ^ i ≤ 2 ^ 63 := by
    have := Nat.pow_le_pow_right (n := 2) (by decide) (show i ≤ 63 by omega)
    exact_mod_cast this
  have hp0 : (0 : Int) < 2 ^ i := by
    have := Nat.two_pow_pos i
    exact_mod_cast this
  have e1 : IntKind.u64.wrap (2 ^ i) = 2 ^ i := by rw [IntKind.wrap_u64]; exact Int.emod_eq_of_lt (by omega) (by omega)
  have e2 : IntKind.u64.wrap ((2 : Int) ^ i - 1) = 2 ^ i - 1 := by rw [IntKind.wrap_u64]; exact Int.emod_eq_of_lt (by omega) (by omega)
  rw [e1, e2]
  exact bits_mask .u64 64 (by decide) (fun n h0 h1 => by rw [IntKind.wrap_u64]; omega) i (by omega) a h0 (by omega)

theorem fits_mod (a : Int) (n : Nat) : (a % 2 ^ (8 * n)).toNat < 256 ^ n := by
  have h2 : (2 : Int) ^ (8 * n) = ((256 ^ n : Nat) : Int) := by
    rw [show (256 : Nat) = 2 ^ 8 by decide, ← Nat.pow_mul]; simp
  rw [h2]
  have h3 : 0 < 256 ^ n := Nat.pow_pos (by omega)
  have := Int.emod_nonneg a (b := ((256 ^ n : Nat) : Int)) (by omega)
  have := Int.emod_lt_of_pos a (b := ((256 ^ n : Nat) : Int)) (by omega)
  omega

theorem div_mod_pow (n j k : Nat) (h : j < k) : n % 256 ^ k / 256 ^ j % 256 = n / 256 ^ j % 256 := by
  obtain ⟨d, rfl⟩ : ∃ d, k = j + 1 + d := ⟨k - (j + 1), by omega⟩
  rw [Nat.pow_add, Nat.pow_succ, Nat.mul_assoc, Nat.mod_mul_right_div_self, Nat.mod_mul_right_mod]

theorem bigEnd_mod (j n k : Nat) (h : j ≤ k) : bigEnd j (n % 256 ^ k) = bigEnd j n := by
  induction j with
  | zero => rfl
  | succ j ih =>
    have e : UInt8.ofNat (n % 256 ^ k / 256 ^ j) = UInt8.ofNat (n / 256 ^ j) := by
      apply UInt8.toNat_inj.1
      rw [UInt8.toNat_ofNat', UInt8.toNat_ofNat']
      exact div_mod_pow n j k (by omega)
    simp only [bigEnd]
    rw [e, ih (by omega)]

theorem bigEnd_less (n : Nat) : ∀ a b : Nat, a < 256 ^ n → b < 256 ^ n → Op.bytesLess (bigEnd n a) (bigEnd n b) = decide (a < b) := by
  induction n with
  | zero => intro a b ha hb; have : a = 0 := by simpa using ha
            have : b = 0 := by simpa using hb
            subst_vars; rfl
  | succ k ih =>
    intro a b ha hb
    have hk : 0 < 256 ^ k := Nat.pow_pos (by omega)
    rw [Nat.pow_succ] at ha hb
    have ha' : a / 256 ^ k < 256 := Nat.div_lt_of_lt_mul ha
    have hb' : b / 256 ^ k < 256 := Nat.div_lt_of_lt_mul hb
    have hma := Nat.mod_lt a hk
    have hmb := Nat.mod_lt b hk
    have hda := Nat.div_add_mod a (256 ^ k)
    have hdb := Nat.div_add_mod b (256 ^ k)
    have hi := ih _ _ hma hmb
    rw [bigEnd_mod k a k (Nat.le_refl _), bigEnd_mod k b k (Nat.le_refl _)] at hi
    have t1 : (UInt8.ofNat (a / 256 ^ k)).toNat = a / 256 ^ k := by rw [UInt8.toNat_ofNat']; exact Nat.mod_eq_of_lt ha'
    have t2 : (UInt8.ofNat (b / 256 ^ k)).toNat = b / 256 ^ k := by rw [UInt8.toNat_ofNat']; exact Nat.mod_eq_of_lt hb'
    simp only [bigEnd, Op.bytesLess]
    rw [hi]
    generalize a / 256 ^ k = qa at *
    generalize b / 256 ^ k = qb at *
    generalize a % 256 ^ k = ra at *
    generalize b % 256 ^ k = rb at *
    have l1 : decide (UInt8.ofNat qa < UInt8.ofNat qb) = decide (qa < qb) := by
      rw [Bool.eq_iff_iff, decide_eq_true_iff, decide_eq_true_iff, UInt8.lt_iff_toNat_lt, t1, t2]
    have l2 : (UInt8.ofNat qa == UInt8.ofNat qb) = decide (qa = qb) := by
      rw [Bool.eq_iff_iff, beq_iff_eq, decide_eq_true_iff, ← UInt8.toNat_inj, t1, t2]
    rw [l1, l2]
    rcases Nat.lt_trichotomy qa qb with h | h | h
    · have : 256 ^ k * (qa + 1) ≤ 256 ^ k * qb := Nat.mul_le_mul_left _ h
      rw [Nat.mul_add] at this
      simp [h]
      omega
    · subst h
      simp
      omega
    · have : 256 ^ k * (qb + 1) ≤ 256 ^ k * qa := Nat.mul_le_mul_left _ h
      rw [Nat.mul_add] at this
      have h1 : ¬ qa < qb := by omega
      have h2 : ¬ qa = qb := by omega
      simp [h1, h2]
      omega

theorem bigEnd_inj (n a b : Nat) (ha : a < 256 ^ n) (hb : b < 256 ^ n) (h : bigEnd n a = bigEnd n b) : a = b := by
  have h1 := bigEnd_less n a b ha hb
  have h2 := bigEnd_less n b a hb ha
  have h3 := bigEnd_less n a a ha ha
  rw [← h] at h1 h2
  rw [h1] at h3
  rw [h1] at h2
  simp at h3 h2
  omega

theorem order_less (n : Nat) (x y : Int) (hx : 0 ≤ x) (hy : 0 ≤ y) (h1 : x.toNat < 256 ^ n) (h2 : y.toNat < 256 ^ n) : Op.bytesLess (bigEnd n x.toNat) (bigEnd n y.toNat) = decide (x < y) := by
  rw [bigEnd_less n _ _ h1 h2, Bool.eq_iff_iff, decide_eq_true_iff, decide_eq_true_iff]
  omega

theorem order_same (n : Nat) (x y : Int) (hx : 0 ≤ x) (hy : 0 ≤ y) (h1 : x.toNat < 256 ^ n) (h2 : y.toNat < 256 ^ n) : (bigEnd n x.toNat == bigEnd n y.toNat) = (x == y) := by
  rw [Bool.eq_iff_iff, beq_iff_eq, beq_iff_eq]
  constructor
  · intro h
    have := bigEnd_inj n _ _ h1 h2 h
    omega
  · intro h; rw [h]

end Go.Proofs.Ytkclgemkeifbaaa
