/-
  The reference of layer 22.
-/
import Derived.Test.YtkclgemkeifbaaaHeadD
import Derived.IntWalk
namespace Go.Proofs.Ytkclgemkeifbaaa
open Go.RowKit Go.Proofs

theorem conv_two (w : World) (a b : UInt8) (x y : Int) (hx : x = a.toNat) (hy : y = b.toNat) : (convert 47 9 (.slice (some ⟨w.heap.size, 0, none⟩) 2 2)).run Try.prog (w.alloc (.cells #[.int .u8 x, .int .u8 y] 5)) = .ok (.string ⟨#[a, b]⟩) (w.alloc (.cells #[.int .u8 x, .int .u8 y] 5)) := by
  subst hx hy
  refine run_convert_bytes_back (P := Try.prog) _ 47 9 5 ⟨w.heap.size, 0, none⟩ 2 [a, b] Try.underlying47 Try.underlying5 Try.underlying9 (fun j hj => ?_)
  match j, hj with
  | 0, _ => rw [Addr.add_lit, Nat.add_zero, World.cell?_alloc_at _ _ _ _ rfl]; rfl
  | 1, _ => rw [Addr.add_lit, Nat.zero_add, World.cell?_alloc_at _ _ _ _ rfl]; rfl

set_option maxHeartbeats 1000000 in
set_option maxRecDepth 100000 in
theorem refTwo_any (n : Int) (w : World) (h0 : 0 ≤ n) (h1 : n ≤ 9223372036854775807) : Calls Try.prog 34 #[.int .i64 n] w fun e w' => e = .returned (.string ⟨(two n).toArray⟩) ∧ Fr (fun _ => False) w w' := by
  have hc := conv_two w (UInt8.ofNat (n.toNat / 256)) (UInt8.ofNat n.toNat) (n / 256 % 256) (n % 256) (by rw [UInt8.toNat_ofNat']; omega) (by rw [UInt8.toNat_ofNat']; omega)
  go_enter Try.func34, Try.ntmps34
  go_wp2_with fail
  go_ret
  refine ⟨?_, (Fr.refl _ _).alloc _⟩
  simp [two, bigEnd]

set_option maxHeartbeats 1000000 in
set_option maxRecDepth 100000 in
theorem refBit_any (b : Bool) (n : Int) (w : World) : Calls Try.prog 111 #[.bool b, .int .i64 n] w fun e w' => e = .returned (.int .i64 (bitI b n)) ∧ w = w' := by
  cases b
  · go_enter Try.func111, Try.ntmps111
    go_wp2_with fail
    go_ret
    exact ⟨rfl, rfl⟩
  · go_enter Try.func111, Try.ntmps111
    go_wp2_with fail
    go_ret
    exact ⟨rfl, rfl⟩

set_option maxHeartbeats 1000000 in
set_option maxRecDepth 100000 in
theorem refFlags_any (h : Hd) (hf : h.Fits) (w : World) :
    Calls Try.prog 74 #[.bool h.resp, .int .i64 h.op, .bool h.auth, .bool h.trunc, .bool h.des, .bool h.avail, .int .i64 h.zero, .int .i64 h.code] w fun e w' => e = .returned (.int .i64 h.flags) ∧ w = w' := by
  have a0 := hf.op
  have a1 := hf.zero
  have a2 := hf.code
  have b0 := bitI_range h.resp 32768 (by decide)
  have b1 := bitI_range h.avail 128 (by decide)
  have b2 := bitI_range h.des 256 (by decide)
  have b3 := bitI_range h.trunc 512 (by decide)
  have b4 := bitI_range h.auth 1024 (by decide)
  go_enter Try.func74, Try.ntmps74
  go_wp2_with fail
  refine (refBit_any _ _ _).mono ?_
  rintro e w1 ⟨rfl, rfl⟩
  go_wp2_with fail
  refine (refBit_any _ _ _).mono ?_
  rintro e w1 ⟨rfl, rfl⟩
  go_wp2_with fail
  refine (refBit_any _ _ _).mono ?_
  rintro e w1 ⟨rfl, rfl⟩
  go_wp2_with fail
  refine (refBit_any _ _ _).mono ?_
  rintro e w1 ⟨rfl, rfl⟩
  go_wp2_with fail
  refine (refBit_any _ _ _).mono ?_
  rintro e w1 ⟨rfl, rfl⟩
  go_wp2_with fail
  go_ret
  refine ⟨?_, rfl⟩
  congr 2
  simp only [Hd.flags, Hd.fl]
  simp
  omega

theorem numAt_bytes (s : ByteArray) (i : Nat) (h : i + 1 < s.size) : numAt s.data.toList i = 256 * (s[i].toNat : Int) + (s[i + 1].toNat : Int) := by
  have hl : s.data.toList.length = s.size := by simp
  unfold numAt
  rw [List.drop_eq_getElem_cons (by omega), List.drop_eq_getElem_cons (by omega)]
  simp only [List.take_succ_cons, List.take_zero, getNum, List.foldl_cons, List.foldl_nil]
  have e1 : s.data.toList[i]'(by omega) = s[i] := rfl
  have e2 : s.data.toList[i + 1]'(by omega) = s[i + 1] := rfl
  rw [e1, e2]
  simp

set_option maxHeartbeats 1000000 in
set_option maxRecDepth 100000 in
theorem refGet2_any (s : ByteArray) (i : Nat) (z : Int) (hz : z = i) (w : World) (h : i + 1 < s.size) (hs : s.size ≤ 9223372036854775807) :
    Calls Try.prog 63 #[.string s, .int .i64 z] w fun e w' => e = .returned (.int .i64 (numAt s.data.toList i)) ∧ ∃ n, w' = w.drewN n := by
  rw [numAt_bytes s i h]
  have h1 : i < s.size := by omega
  have h2 : (i : Int) < (s.size : Int) := by omega
  have h3 : (i : Int) + 1 < (s.size : Int) := by omega
  have b1 := s[i].toNat_lt
  have b2 := s[i + 1].toNat_lt
  subst hz
  have h5 : (0 : Int) ≤ (i : Int) + 1 := by omega
  have h4 : IntKind.i64.wrap ((i : Int) + 1) = (i : Int) + 1 := IntWalk.i64_in _ (by omega)
  have h6 : ((i : Int) + 1).toNat = i + 1 := by omega
  go_enter Try.func63, Try.ntmps63
  go_wp2_with fail
  go_quiet (fail)
  go_wp2_with fail
  go_ret
  exact ⟨rfl, _, rfl⟩
end Go.Proofs.Ytkclgemkeifbaaa
