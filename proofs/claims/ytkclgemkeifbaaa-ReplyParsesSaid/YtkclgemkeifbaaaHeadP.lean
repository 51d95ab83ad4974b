/-
  Heads' bytes in plain Lean: read again.
-/
import Derived.Test.YtkclgemkeifbaaaHeadD
namespace Go.Proofs.Ytkclgemkeifbaaa
open Go.RowKit Go.Proofs

theorem numAt_app (a b : List UInt8) (i : Nat) (h : i = a.length) : numAt (a ++ b) i = numAt b 0 := by
  subst h; unfold numAt; simp
theorem numAt_two (n : Int) (h0 : 0 ≤ n) (h1 : n ≤ 65535) (b : List UInt8) : numAt (two n ++ b) 0 = n := by
  unfold numAt
  rw [List.drop_zero, List.take_left' (two_length n)]
  unfold two
  rw [getNum_bigEnd (by simp; omega)]; omega

theorem hdOf_flags (h : Hd) (hf : h.Fits) (hb : ¬ h.bad) : hdOf h.id h.flags h.c0 h.c1 h.c2 h.c3 = h := by
  obtain ⟨id, resp, op, auth, trunc, des, avail, zero, code, c0, c1, c2, c3⟩ := h
  have a0 := hf.op
  have a1 := hf.zero
  have a2 := hf.code
  unfold Hd.bad at hb
  simp only at a0 a1 a2 hb
  unfold hdOf Hd.flags Hd.fl
  simp only [bitI]
  cases resp <;> cases auth <;> cases trunc <;> cases des <;> cases avail <;> simp <;> omega

theorem hdRead_app (h : Hd) (hf : h.Fits) (hb : ¬ h.bad) (t : List UInt8) : hdRead (h.bytes ++ t) = h := by
  obtain ⟨g1, g2, g3⟩ : h.op ≤ 15 ∧ h.code ≤ 15 ∧ h.zero ≤ 7 := by unfold Hd.bad at hb; omega
  have hfl : 0 ≤ h.flags ∧ h.flags < 65536 := fl_range h hf g1 g3 g2 4
  have e : h.bytes ++ t = two h.id ++ (two h.flags ++ (two h.c0 ++ (two h.c1 ++ (two h.c2 ++ (two h.c3 ++ t))))) := by
    simp [Hd.bytes, Hd.part, Hd.cs]
  have n0 : numAt (h.bytes ++ t) 0 = h.id := by rw [e]; exact numAt_two _ hf.id.1 hf.id.2 _
  have n2 : numAt (h.bytes ++ t) 2 = h.flags := by
    rw [e, numAt_app _ _ 2 (two_length _).symm]; exact numAt_two _ hfl.1 (by omega) _
  have n4 : numAt (h.bytes ++ t) 4 = h.c0 := by
    rw [e, ← List.append_assoc, numAt_app _ _ 4 (by simp [two_length])]; exact numAt_two _ hf.c0.1 hf.c0.2 _
  have n6 : numAt (h.bytes ++ t) 6 = h.c1 := by
    rw [e, ← List.append_assoc, ← List.append_assoc, numAt_app _ _ 6 (by simp [two_length])]; exact numAt_two _ hf.c1.1 hf.c1.2 _
  have n8 : numAt (h.bytes ++ t) 8 = h.c2 := by
    rw [e, ← List.append_assoc, ← List.append_assoc, ← List.append_assoc, numAt_app _ _ 8 (by simp [two_length])]; exact numAt_two _ hf.c2.1 hf.c2.2 _
  have n10 : numAt (h.bytes ++ t) 10 = h.c3 := by
    rw [e, ← List.append_assoc, ← List.append_assoc, ← List.append_assoc, ← List.append_assoc, numAt_app _ _ 10 (by simp [two_length])]; exact numAt_two _ hf.c3.1 hf.c3.2 _
  unfold hdRead
  rw [n0, n2, n4, n6, n8, n10]
  exact hdOf_flags h hf hb
theorem two_numAt (l : List UInt8) (i : Nat) (h : i + 2 ≤ l.length) : two (numAt l i) = (l.drop i).take 2 := by
  unfold two numAt
  rw [List.drop_eq_getElem_cons (by omega), List.drop_eq_getElem_cons (by omega)]
  simp only [List.take_succ_cons, List.take_zero, getNum, List.foldl_cons, List.foldl_nil]
  have b1 := (l[i]'(by omega)).toNat_lt
  have b2 := (l[i + 1]'(by omega)).toNat_lt
  simp only [bigEnd, Int.toNat_natCast]
  congr 1
  · apply UInt8.toNat_inj.1; rw [UInt8.toNat_ofNat']; omega
  · congr 1
    apply UInt8.toNat_inj.1; rw [UInt8.toNat_ofNat']; omega

theorem flags_hdOf (n0 n1 n2 n3 n4 n5 : Int) (h0 : 0 ≤ n1) (h1 : n1 ≤ 65535) : (hdOf n0 n1 n2 n3 n4 n5).flags = n1 := by
  simp only [Hd.flags, Hd.fl, hdOf, bitI]
  simp only [beq_iff_eq]
  simp
  split <;> split <;> split <;> split <;> split <;> omega

theorem take_two (l : List UInt8) (i : Nat) : l.take i ++ (l.drop i).take 2 = l.take (i + 2) := by
  rw [List.take_add]

theorem hdRead_bytes (l : List UInt8) (h : 12 ≤ l.length) : (hdRead l).bytes = l.take 12 := by
  have r := numAt_range l 2
  have e : (hdRead l).flags = numAt l 2 := flags_hdOf _ _ _ _ _ _ r.1 r.2
  unfold Hd.bytes Hd.part Hd.cs
  rw [e]
  simp only [hdRead, hdOf]
  rw [two_numAt l 0 (by omega), two_numAt l 2 (by omega)]
  simp only [List.take_succ_cons, List.take_zero, List.flatMap_cons, List.flatMap_nil, List.append_nil]
  rw [two_numAt l 4 (by omega), two_numAt l 6 (by omega), two_numAt l 8 (by omega), two_numAt l 10 (by omega)]
  simp only [← List.append_assoc, List.drop_zero]
  rw [take_two, take_two, take_two, take_two, take_two]

theorem hdRead_out (l : List UInt8) (h : 12 ≤ l.length) : hdOut (hdRead l) = .ok (l.take 12) := by
  have r := numAt_range l 2
  unfold hdOut
  rw [if_neg, hdRead_bytes l h]
  unfold Hd.bad hdRead hdOf
  simp only
  omega
end Go.Proofs.Ytkclgemkeifbaaa
