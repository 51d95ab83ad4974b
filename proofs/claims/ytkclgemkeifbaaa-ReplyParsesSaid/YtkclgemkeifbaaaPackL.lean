/-
  The reader's methods, by what is left as a list of bytes.
-/
import Derived.Test.YtkclgemkeifbaaaPackKeep
namespace Go.Proofs.Ytkclgemkeifbaaa
open Go.RowKit Go.Proofs

theorem getNum_from (k : Nat) : ∀ n a : Nat, (bigEnd k n).foldl (fun n b => 256 * n + b.toNat) a = a * 256 ^ k + n % 256 ^ k := by
  induction k with
  | zero => intro n a; simp [bigEnd, Nat.mod_one]
  | succ k ih =>
    intro n a
    simp only [bigEnd, List.foldl_cons, ih, UInt8.toNat_ofNat']
    have h1 : n % 256 ^ (k + 1) = n / 256 ^ k % 256 * 256 ^ k + n % 256 ^ k := by
      rw [Nat.pow_succ, Nat.mod_mul, Nat.mul_comm (256 ^ k) (n / 256 ^ k % 256), Nat.add_comm]
    have h2 : a * 256 ^ (k + 1) = 256 * a * 256 ^ k := by
      rw [Nat.pow_succ, ← Nat.mul_assoc, Nat.mul_right_comm, Nat.mul_comm a 256]
    have h3 : (2 : Nat) ^ 8 = 256 := rfl
    rw [h3, h1, h2, Nat.add_mul]
    omega
theorem getNum_bigEnd {k n : Nat} (h : n < 256 ^ k) : getNum (bigEnd k n) = n := by
  unfold getNum
  rw [getNum_from, Nat.mod_eq_of_lt h]; omega

theorem mk_extract (l : List UInt8) (i j : Nat) : (ByteArray.mk l.toArray).extract i j = ⟨((l.take j).drop i).toArray⟩ := by
  apply ByteArray.ext
  simp [List.drop_take]
theorem mk_size (l : List UInt8) : (ByteArray.mk l.toArray).size = l.length := by show (List.toArray l).size = _; rw [List.size_toArray]
theorem mk_list (l : List UInt8) : (ByteArray.mk l.toArray).data.toList = l := by simp

/-- the reader at block b still holds the bytes l -/
def RdL (w : World) (b : Nat) (l : List UInt8) : Prop := RdAt w b ⟨l.toArray⟩

theorem RdL.keep {S : Nat → Prop} {w w' : World} {b : Nat} {l : List UInt8} (h : RdL w b l) (f : Fr S w w') (hS : ¬ S b) : RdL w' b l := RdAt.keep h f hS
theorem RdL.drew {w : World} {b : Nat} {l : List UInt8} (h : RdL w b l) : RdL w.drew b l := ⟨h.1, h.2.1, h.2.2⟩
theorem RdL.drewN {w : World} {b : Nat} {l : List UInt8} (h : RdL w b l) (n : Nat) : RdL (w.drewN n) b l := ⟨h.1, h.2.1, h.2.2⟩
theorem RdL.len {w : World} {b : Nat} {l : List UInt8} (h : RdL w b l) : l.length ≤ 9223372036854775807 := by have := h.2.2; rwa [mk_size] at this

theorem readNum_ok (b n : Nat) (l : List UInt8) (w : World) (hr : RdL w b l) (h1 : 1 ≤ n) (h8 : n ≤ 8) (h : n ≤ l.length) (z : Int) (hz : z = n) :
    Calls Try.prog 66 #[.pointer (some ⟨b, 0, none⟩), .int .i64 z] w fun e w' => e = .returned (.int .u64 (getNum (l.take n) : Nat)) ∧ RdL w' b (l.drop n) ∧ Fr (· = b) w w' := by
  subst hz
  refine (readerNum_ok b n _ w hr h1 h8 (by rw [mk_size]; exact h)).mono ?_
  rintro e w' ⟨rfl, h2, h3⟩
  rw [mk_extract, mk_size, List.take_length] at h2
  refine ⟨?_, h2, h3⟩
  rw [mk_extract, mk_list]
  rfl
theorem readNum_short (b : Nat) (n : Nat) (l : List UInt8) (w : World) (hr : RdL w b l) (h1 : 1 ≤ n) (h8 : n ≤ 8) (h : l.length < n) (z : Int) (hz : z = n) :
    Calls Try.prog 66 #[.pointer (some ⟨b, 0, none⟩), .int .i64 z] w fun e w' => e = .panicked [{ v := refused 2, recovered := false }] ∧ w = w' := by
  subst hz
  refine (readerNum_short b n _ w hr (by omega) (by omega) (by rw [mk_size]; omega)).mono ?_
  rintro e w' ⟨rfl, rfl⟩
  exact ⟨rfl, rfl⟩
theorem readRaw_ok (b n : Nat) (l : List UInt8) (w : World) (hr : RdL w b l) (h : n ≤ l.length) (z : Int) (hz : z = n) :
    Calls Try.prog 102 #[.pointer (some ⟨b, 0, none⟩), .int .i64 z] w fun e w' => e = .returned (.string ⟨(l.take n).toArray⟩) ∧ RdL w' b (l.drop n) ∧ Fr (· = b) w w' := by
  subst hz
  refine (readerRaw_ok b n _ w hr (by rw [mk_size]; exact h)).mono ?_
  rintro e w' ⟨rfl, rfl⟩
  have h2 := RdAt.after hr (s' := (ByteArray.mk l.toArray).extract n (ByteArray.mk l.toArray).size) (by simp)
  have e := mk_extract l n l.length
  rw [List.take_length] at e
  rw [mk_size, e] at h2 ⊢
  refine ⟨?_, h2, (Fr.refl (· = b) w).setCell (p := ⟨b, 0, none⟩) (.inl rfl) _⟩
  rw [mk_extract]; rfl
theorem readRaw_short (b : Nat) (n : Nat) (l : List UInt8) (w : World) (hr : RdL w b l) (h : l.length < n) (hn : n ≤ 9223372036854775807) (z : Int) (hz : z = n) :
    Calls Try.prog 102 #[.pointer (some ⟨b, 0, none⟩), .int .i64 z] w fun e w' => e = .panicked [{ v := refused 2, recovered := false }] ∧ w = w' := by
  subst hz
  refine (readerRaw_short b n _ w hr (by omega) (by rw [mk_size]; omega) (by omega)).mono ?_
  rintro e w' ⟨rfl, rfl⟩
  exact ⟨rfl, rfl⟩
end Go.Proofs.Ytkclgemkeifbaaa
