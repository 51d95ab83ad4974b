/-
  Package bellhopref06: Length.
-/
import Derived.Test.YtkclgemkeifbaaaStrFrom
namespace Go.Proofs.Ytkclgemkeifbaaa
open Go.RowKit Go.Proofs

theorem conv_two06 (w : World) (a b : UInt8) (x y : Int) (hx : x = a.toNat) (hy : y = b.toNat) : (convert 47 9 (.slice (some ⟨w.heap.size, 0, none⟩) 2 2)).run Try.prog (w.alloc (.cells #[.int .u8 x, .int .u8 y] 5)) = .ok (.string ⟨#[a, b]⟩) (w.alloc (.cells #[.int .u8 x, .int .u8 y] 5)) := by
  subst hx hy
  refine run_convert_bytes_back (P := Try.prog) _ 47 9 5 ⟨w.heap.size, 0, none⟩ 2 [a, b] Try.underlying47 Try.underlying5 Try.underlying9 (fun j hj => ?_)
  match j, hj with
  | 0, _ => rw [Addr.add_lit, Nat.add_zero, World.cell?_alloc_at _ _ _ _ rfl]; rfl
  | 1, _ => rw [Addr.add_lit, Nat.zero_add, World.cell?_alloc_at _ _ _ _ rfl]; rfl
set_option maxHeartbeats 1000000 in
set_option maxRecDepth 100000 in
theorem length06_any (n : Nat) (hn : n ≤ 4096) (w : World) : Calls Try.prog 36 #[.int .i64 n] w fun e w' => e = .returned (.string ⟨(numB 2 n).toArray⟩) ∧ Gr w w' := by
  have h0 : (0 : Int) ≤ (n : Int) := by omega
  have h1 : (n : Int) ≤ 4096 := by omega
  have hc := conv_two06 w (UInt8.ofNat (n / 256)) (UInt8.ofNat n) ((n : Int) / 256) ((n : Int) % 256) (by rw [UInt8.toNat_ofNat']; omega) (by rw [UInt8.toNat_ofNat']; omega)
  go_enter Try.func36, Try.ntmps36
  go_wp2_with fail
  go_ret
  refine ⟨?_, (Fr.refl _ _).alloc _⟩
  simp [numB, bigEnd]
end Go.Proofs.Ytkclgemkeifbaaa
