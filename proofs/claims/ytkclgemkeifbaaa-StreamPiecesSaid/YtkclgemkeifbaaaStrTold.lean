/-
  Package bellhoplaw06: told, speaks.
-/
import Derived.Test.YtkclgemkeifbaaaStrFeed
import Derived.Test.YtkclgemkeifbaaaRegionZ
namespace Go.Proofs.Ytkclgemkeifbaaa
open Go.RowKit Go.Proofs

/-- the statements' message: kind, node, key -/
structure SMsg where
  kind : Int
  node : Int
  key : ByteArray
abbrev SMsg.val (x : SMsg) : Value := .agg #[.int .i64 x.kind, .int .i64 x.node, .string x.key]
def SMsg.fits (x : SMsg) : Prop := (-9223372036854775808 ≤ x.kind ∧ x.kind ≤ 9223372036854775807) ∧ (-9223372036854775808 ≤ x.node ∧ x.node ≤ 9223372036854775807) ∧ x.key.size ≤ 9223372036854775807
def cut64 (s : ByteArray) : ByteArray := s.extract 0 (min s.size 64)
theorem cut_min64 (s : ByteArray) (h : s.size ≤ 9223372036854775807) : ∃ m : Nat, m ≤ s.size ∧ m ≤ 64 ∧ (if (64 : Int) < (s.size : Int) then (64 : Int) else (s.size : Int)) = (m : Int) ∧ min (s.size : Int) 64 = (m : Int) ∧ s.extract 0 m = cut64 s :=
  ⟨min s.size 64, by omega, by omega, by split <;> omega, by omega, rfl⟩
theorem mod14 (k : Int) : wrap64 (1 + (wrap64 (k.tmod 14 + 14)).tmod 14) = 1 + k % 14 := by
  have h : k.tmod 14 = k % 14 ∨ k.tmod 14 = k % 14 - 14 := by
    rw [Int.tmod_eq_emod]
    split
    · left; omega
    · right; rfl
  have h0 : 0 ≤ k % 14 := Int.emod_nonneg _ (by decide)
  have h1 : k % 14 < 14 := Int.emod_lt_of_pos _ (by decide)
  rw [IntWalk.wrap64_in (k.tmod 14 + 14) ⟨by omega, by omega⟩, Int.tmod_eq_emod_of_nonneg (by omega)]
  have h2 : (k.tmod 14 + 14) % 14 = k % 14 := by omega
  rw [h2, IntWalk.wrap64_in _ ⟨by omega, by omega⟩]
theorem and_mask (x : Int) : bits .and .i64 x 65535 = x % 65536 := by
  have e : (BitVec.ofInt 64 x &&& BitVec.ofInt 64 65535).toNat = (x % 18446744073709551616).toNat % 65536 := by
    rw [BitVec.toNat_and, BitVec.toNat_ofInt, BitVec.toNat_ofInt]
    exact Nat.and_two_pow_sub_one_eq_mod _ 16
  show IntKind.i64.wrap ((BitVec.ofInt 64 x &&& BitVec.ofInt 64 65535).toNat : Int) = _
  rw [e, IntWalk.i64_in _ ⟨by omega, by omega⟩]
  omega
def SMsg.told (x : SMsg) : Msg := ⟨1 + x.kind % 14, x.node % 65536, 0, false, [], [⟨cut64 x.key, 9⟩], []⟩

set_option maxHeartbeats 4000000 in
set_option maxRecDepth 100000 in
theorem told_any (x : SMsg) (W : World) (hx : x.fits) : Calls Try.prog 23 #[x.val] W fun e w' => Gr W w' ∧ ∃ p, e = .returned (x.told.val p) ∧ MsgOwn W.heap.size w' x.told p := by
  obtain ⟨⟨hk1, hk2⟩, ⟨hn1, hn2⟩, hz⟩ := hx
  obtain ⟨mm, hm1, hm2, hite, hmin, hext⟩ := cut_min64 x.key hz
  have HEXT := Lib.hid hext
  clear hext
  go_enter Try.func23, Try.ntmps23
  go_wp2_with fail
  go_region
  rw [mod14, and_mask, HEXT.out]
  clear hite hmin hm1 hm2 HEXT
  go_wp2_with fail
  refine bodyPost_ret (v := x.told.val ⟨none, 0, some ⟨W.heap.size + 1 + 1, 0, none⟩, 1, none, 0⟩) (by simp [results, Try.results23, go_sem, SMsg.told]) rfl ⟨(((((Fr.refl _ _).alloc _).alloc _).alloc _).drew), _, rfl, World.ownsRow_nil _ _ _ _, ?_, World.ownsRow_nil _ _ _ _⟩
  refine ⟨rfl, .inr ⟨_, 1, #[.string (cut64 x.key), .int .u64 9], rfl, by omega, ?_, Nat.le_refl _, by decide, rfl, rfl⟩⟩
  show (((W.alloc _).alloc _).alloc _).heap[_]? = _
  rw [heap_alloc_if, if_pos (by simp)]

theorem told_may (x : SMsg) : x.told.may = true := by
  unfold SMsg.told Msg.may
  have h0 : 0 ≤ x.kind % 14 := Int.emod_nonneg _ (by decide)
  have h1 : x.kind % 14 < 14 := Int.emod_lt_of_pos _ (by decide)
  have h2 : 0 ≤ x.node % 65536 := Int.emod_nonneg _ (by decide)
  have h3 : x.node % 65536 < 65536 := Int.emod_lt_of_pos _ (by decide)
  have h4 : (cut64 x.key).size ≤ 64 := by unfold cut64; simp; omega
  simp [inR, h4]
  omega
theorem told_fits (x : SMsg) : x.told.fits := by
  unfold SMsg.told Msg.fits
  simp
theorem told_enc (x : SMsg) : x.told.enc.length ≤ 100 := by
  have h4 : (cut64 x.key).size ≤ 64 := by unfold cut64; simp; omega
  unfold SMsg.told Msg.enc
  simp [numB_length, MId.enc_length]
  omega
theorem told_code (x : SMsg) : x.told.code = 0 := Msg.code_zero.2 ⟨told_may x, by have := told_enc x; omega⟩
end Go.Proofs.Ytkclgemkeifbaaa
