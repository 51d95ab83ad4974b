/-
  The reference's Num.
-/
import Derived.Test.YtkclgemkeifbaaaPackSpec
import Derived.Laws.IdiomStrings
namespace Go.Proofs.Ytkclgemkeifbaaa
open Go.RowKit Go.Proofs

/-- the bytes of a number, or none -/
def numBytes (n : Nat) (size : Int) : List UInt8 := if 1 ≤ size ∧ size ≤ 8 ∧ n < 256 ^ size.toNat then bigEnd size.toNat n else []

theorem conv_one (w : World) (b : UInt8) (x : Int) (hx : x = b.toNat) : (convert 47 9 (.slice (some ⟨w.heap.size, 0, none⟩) 1 1)).run Try.prog (w.alloc (.cells #[.int .u8 x] 5)) = .ok (.string ⟨#[b]⟩) (w.alloc (.cells #[.int .u8 x] 5)) := by
  subst hx
  refine run_convert_bytes_back (P := Try.prog) _ 47 9 5 ⟨w.heap.size, 0, none⟩ 1 [b] Try.underlying47 Try.underlying5 Try.underlying9 (fun j hj => ?_)
  match j, hj with
  | 0, _ =>
    rw [Addr.add_lit, Nat.add_zero, World.cell?_alloc_at _ _ _ _ rfl]; rfl

set_option maxHeartbeats 1000000 in
set_option maxRecDepth 100000 in
theorem refNum_out (n size : Int) (w : World) (h : size < 1 ∨ 8 < size) :
    Calls Try.prog 50 #[.int .u64 n, .int .i64 size] w fun e w' => e = .returned (.string ⟨#[]⟩) ∧ Below w.heap.size w w' := by
  by_cases h1 : size < 1
  · clear h
    go_enter Try.func50, Try.ntmps50
    go_wp2_with fail
    go_ret
    exact ⟨rfl, Below.refl _ _⟩
  · have h2 : 8 < size := by omega
    clear h
    go_enter Try.func50, Try.ntmps50
    go_wp2_with fail
    go_ret
    exact ⟨rfl, Below.refl _ _⟩

set_option maxHeartbeats 1000000 in
set_option maxRecDepth 100000 in
theorem refNum_in (n size : Int) (w : World) (h0 : 0 ≤ n) (hn : n < 18446744073709551616) (h1 : 1 ≤ size) (h8 : size ≤ 8) :
    Calls Try.prog 50 #[.int .u64 n, .int .i64 size] w fun e w' => e = .returned (.string ⟨(numBytes n.toNat size).toArray⟩) ∧ Below w.heap.size w w' := by
  have h1' : ¬ size < 1 := by omega
  have h8' : ¬ 8 < size := by omega
  obtain ⟨m, rfl⟩ : ∃ m : Nat, n = m := ⟨n.toNat, by omega⟩
  obtain ⟨sz, rfl⟩ : ∃ sz : Nat, size = sz := ⟨size.toNat, by omega⟩
  go_enter Try.func50, Try.ntmps50
  go_wp2_with fail
  go_loopw [0, 5, 6] (fun nv sv iv wr => ∃ (i q : Nat), iv = .int .i64 i ∧ i ≤ sz ∧ nv = .int .u64 q ∧ m / 256 ^ i = q ∧ sv = .string ⟨(bigEnd i m).toArray⟩ ∧ Below w.heap.size w wr) (fun _ _ iv _ => sz - (intOf iv).toNat)
  case atStart => exact ⟨0, m, rfl, by omega, rfl, by simp, rfl, Below.refl _ _⟩
  case round =>
    obtain ⟨i, q, rfl, hi, rfl, hq, rfl, hb⟩ := hrel
    have hd : q ≤ m := by rw [← hq]; exact Nat.div_le_self _ _
    have HQ := Lib.hid hq; clear hq
    have hwr : IntKind.u64.wrap ((q : Int) / 256) = ((q / 256 : Nat) : Int) := by
      rw [IntKind.wrap_u64, Int.natCast_ediv]
      exact Int.emod_eq_of_lt (by omega) (by omega)
    clear h0 hn hd
    have hbs := hb.size
    have HB := Lib.hid hb; clear hb
    obtain ⟨B, hB⟩ : ∃ B, bigEnd i m = B := ⟨_, rfl⟩
    rw [hB]
    have HBB := Lib.hid hB; clear hB
    by_cases hi1 : i < sz
    · have hcv := conv_one wr (UInt8.ofNat q) ((q : Int) % 256) (by rw [UInt8.toNat_ofNat']; omega)
      have hBl : ¬ 9223372036854775807 < 1 + B.length := by rw [← HBB.out, bigEnd_length]; omega
      have HWR := Lib.hid hwr
      go_wp2_with fail
      go_roundw
      case rel =>
        refine ⟨i + 1, q / 256, by go_num, by omega, by first | rfl | rw [HWR.out], ?_, ?_, HB.out.alloc hbs _⟩
        · rw [Nat.pow_succ, ← Nat.div_div_eq_div_mul, HQ.out]
        · simp only [bigEnd, HQ.out, HBB.out]
          congr 1
      case measure => simp [intOf]; omega
    · obtain rfl : i = sz := by omega
      by_cases hq0 : 0 < q
      · have hnb : numBytes (m : Int).toNat (i : Int) = [] := by
          unfold numBytes
          rw [if_neg]
          intro h
          have := h.2.2
          simp only [Int.toNat_natCast] at this
          rw [← HQ.out, Nat.div_eq_of_lt this] at hq0
          omega
        have HNB := Lib.hid hnb; clear hnb
        go_wp2_with fail
        go_ret
        exact ⟨by rw [HNB.out]; rfl, HB.out⟩
      · have hnb : numBytes (m : Int).toNat (i : Int) = B := by
          unfold numBytes
          rw [if_pos, ← HBB.out]
          · simp
          · refine ⟨by omega, by omega, ?_⟩
            simp only [Int.toNat_natCast]
            have h3 : 0 < 256 ^ i := Nat.pow_pos (by omega)
            have h4 := HQ.out
            rcases Nat.lt_or_ge m (256 ^ i) with h5 | h5
            · exact h5
            · have := Nat.div_pos h5 h3
              omega
        have HNB := Lib.hid hnb; clear hnb
        go_wp2_with fail
        go_ret
        exact ⟨by rw [HNB.out]; rfl, HB.out⟩
end Go.Proofs.Ytkclgemkeifbaaa
