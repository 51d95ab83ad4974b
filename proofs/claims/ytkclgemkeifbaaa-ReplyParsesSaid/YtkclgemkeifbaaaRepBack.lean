/-
  Replies in plain Lean: what was parsed is built again.
-/
import Derived.Test.YtkclgemkeifbaaaRepLaw2
namespace Go.Proofs.Ytkclgemkeifbaaa
open Go.RowKit Go.Proofs

theorem and_not512 (m : Nat) (hm : m < 65536) (h : m.testBit 9 = false) : m &&& (2 ^ 64 - (512 + 1)) = m := by
  apply Nat.eq_of_testBit_eq
  intro i
  rw [Nat.testBit_and, Nat.testBit_two_pow_sub_succ (by decide)]
  by_cases h9 : i = 9
  · subst h9; simp [h]
  · by_cases h64 : i < 64
    · have e : Nat.testBit 512 i = false := by
        rw [show 512 = 2 ^ 9 from rfl, Nat.testBit_two_pow]; simp; omega
      simp [e, h64]
    · have e : m.testBit i = false := Nat.testBit_lt_two_pow (Nat.lt_of_lt_of_le hm (Nat.le_trans (by decide : 65536 ≤ 2 ^ 16) (Nat.pow_le_pow_right (by decide) (by omega))))
      simp [e]
theorem or_not512 (m : Nat) : (m ||| 512) &&& (2 ^ 64 - (512 + 1)) = m &&& (2 ^ 64 - (512 + 1)) := by
  apply Nat.eq_of_testBit_eq
  intro i
  rw [Nat.testBit_and, Nat.testBit_and, Nat.testBit_two_pow_sub_succ (by decide), Nat.testBit_or]
  cases Nat.testBit 512 i <;> simp
theorem bits_not512 (x : Int) (h0 : 0 ≤ x) (h1 : x ≤ 65535) : bits .andNot .i64 x 512 = x - bitI (x / 512 % 2 == 1) 512 := by
  obtain ⟨n, rfl⟩ := Int.eq_ofNat_of_zero_le h0
  have hn : n < 65536 := by omega
  have e0 : ((BitVec.ofInt 64 (n : Int)) &&& ~~~(BitVec.ofInt 64 512)).toNat = n &&& (2 ^ 64 - (512 + 1)) := by
    rw [BitVec.ofInt_natCast, BitVec.toNat_and, BitVec.toNat_not, BitVec.toNat_ofNat, Nat.mod_eq_of_lt (show n < 2 ^ 64 by omega)]
    rfl
  have e1 : bits .andNot .i64 (n : Int) 512 = IntKind.i64.wrap (((n &&& (2 ^ 64 - (512 + 1)) : Nat)) : Int) := by
    rw [← e0]; rfl
  have e2 : ∀ m : Nat, m < 65536 → IntKind.i64.wrap (m : Int) = m := by
    intro m hm
    rw [IntKind.wrap_i64]; omega
  have e3 : n / 512 % 2 = 0 ∨ n / 512 % 2 = 1 := by omega
  rcases e3 with e3 | e3
  · have hb : n.testBit 9 = false := by rw [Nat.testBit_eq_decide_div_mod_eq]; simp; omega
    rw [e1, and_not512 n hn hb, e2 n hn]
    have : (((n : Int) / 512 % 2) == 1) = false := by simp; omega
    rw [this]; simp [bitI]
  · obtain ⟨m, rfl⟩ : ∃ m, n = m + 512 := ⟨n - 512, by omega⟩
    have hz : m / 2 ^ 9 % 2 = 0 := by omega
    have hb : m.testBit 9 = false := by rw [Nat.testBit_eq_decide_div_mod_eq]; simp; omega
    have ho : m ||| 512 = m + 512 := or_pow m 9 hz
    rw [e1, ← ho, or_not512, and_not512 m (by omega) hb, e2 m (by omega)]
    have : ((((m ||| 512 : Nat) : Int) / 512 % 2) == 1) = true := by rw [ho]; simp; omega
    rw [this, ho]; simp [bitI]

/-- what Build makes of what was told of a reply -/
structure Back (s t : List UInt8) : Prop where
  len : t.length = s.length
  pre : t.take 2 = s.take 2
  four : t.drop 4 = s.drop 4
  flags : bits .andNot .i64 (numAt s 2) 512 = numAt t 2

theorem flags_untrunc (h : Hd) : ({ h with trunc := false } : Hd).flags = h.flags - bitI h.trunc 512 := by
  simp only [Hd.flags, Hd.fl, bitI]
  simp
  omega
theorem back_parse (s : List UInt8) (h12 : 12 ≤ s.length) (hok : prsOk s = true) : (prsB s).2.2 = 0 ∧ Back s (prsB s).1 := by
  unfold prsOk at hok
  simp only [Bool.and_eq_true, beq_iff_eq, decide_eq_true_eq] at hok
  obtain ⟨-, h0, hb⟩ := hok
  refine ⟨h0, ?_⟩
  rw [hb]
  have hbt := hdRead_bytes s h12
  have r := numAt_range s 2
  have ef : (hdRead s).flags = numAt s 2 := flags_hdOf _ _ _ _ _ _ r.1 r.2
  have et : (hdRead s).trunc = (numAt s 2 / 512 % 2 == 1) := rfl
  have eu := flags_untrunc (hdRead s)
  rw [ef, et, ← bits_not512 _ r.1 r.2] at eu
  obtain ⟨h, hh⟩ : ∃ h, h = ({ hdRead s with trunc := false } : Hd) := ⟨_, rfl⟩
  rw [← hh] at eu ⊢
  have hl : h.bytes.length = 12 := hd_bytes_length h
  have hs : ∀ k : Hd, k.bytes = two k.id ++ (two k.flags ++ k.cs.flatMap two) := fun k => by simp [Hd.bytes, Hd.part, Hd.cs]
  have hid : h.id = (hdRead s).id := by rw [hh]
  have hcs : h.cs = (hdRead s).cs := by rw [hh]; rfl
  have ht2 : h.bytes.take 2 = s.take 2 := by
    have : (hdRead s).bytes.take 2 = s.take 2 := by rw [hbt, List.take_take]; rfl
    rw [← this, hs, hs, hid, List.take_left' (two_length _), List.take_left' (two_length _)]
  have hd4 : h.bytes.drop 4 = (s.take 12).drop 4 := by
    rw [← hbt, hs, hs, hid, hcs, show (4 : Nat) = 2 + (2 + 0) from rfl, drop_two, drop_two, drop_two, drop_two]
  have h512 : (numAt s 2 / 512 % 2 == 1) = true → 512 ≤ numAt s 2 := by
    intro h; simp at h; omega
  have hfr : 0 ≤ h.flags ∧ h.flags ≤ 65535 := by
    rw [eu, bits_not512 _ r.1 r.2]
    cases hq : (numAt s 2 / 512 % 2 == 1)
    · simp [bitI]; omega
    · have := h512 hq; simp [bitI]; omega
  refine ⟨?_, ?_, ?_, ?_⟩
  · rw [List.length_append, List.length_drop, hl]; omega
  · rw [List.take_append_of_le_length (by omega), ht2]
  · rw [List.drop_append_of_le_length (by omega), hd4]
    have : s.drop 12 = s.drop 12 := rfl
    rw [← List.drop_append_of_le_length (l₂ := s.drop 12) (by simp; omega), List.take_append_drop]
  · rw [← eu, hs, List.append_assoc, numAt_app _ _ 2 (two_length _).symm, List.append_assoc]
    exact (numAt_two _ hfr.1 hfr.2 _).symm
end Go.Proofs.Ytkclgemkeifbaaa
