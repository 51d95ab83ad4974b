/-
  Package bellhoplaw23: speaks.
-/
import Derived.Test.YtkclgemkeifbaaaQLaw
import Derived.Test.YtkclgemkeifbaaaQParse
namespace Go.Proofs.Ytkclgemkeifbaaa
open Go.RowKit Go.Proofs

abbrev lWeb : Lbl := [119, 101, 98]
abbrev lBell : Lbl := [98, 101, 108, 108]
theorem web_may : mayL [lWeb, lBell] = true := by decide
theorem askB_len (id : Int) (l : List Lbl) (typ : Int) (h : mayL l = true) : (askB id l typ).length ≤ 400 := by
  have := ((mayL_iff l).1 h).2
  unfold askB hdAskB
  simp only [List.length_append, numB_length, two_length, lbSize_bytes]
  simp; omega

set_option maxHeartbeats 4000000 in
set_option maxRecDepth 100000 in
theorem speaks23_any (W : World) : Calls Try.prog 27 #[] W fun e w' => e = .returned (.bool true) ∧ Gr W w' := by
  obtain ⟨w1, hw1⟩ : ∃ w1, w1 = W.alloc (.cells #[.string ⟨#[119, 101, 98]⟩, .string ⟨#[98, 101, 108, 108]⟩] 9) := ⟨_, rfl⟩
  have f1 : Gr W w1 := by rw [hw1]; exact (Fr.refl _ _).alloc _
  have b1 : w1.heap[W.heap.size]? = some (.cells #[strV lWeb, strV lBell] 9 (0, 0)) := by rw [hw1, heap_alloc_if, if_pos rfl]
  have S1 : SlA w1 (some ⟨W.heap.size, 0, none⟩) [lWeb, lBell].length 2 (strVs [lWeb, lBell]) := ⟨Nat.le_refl _, by decide, fun j u hj => ⟨W.heap.size, 0, rfl, by
    rw [Nat.zero_add, Lib.cell_of_heap b1]
    match j, hj with
    | 0, hj => exact hj
    | 1, hj => exact hj⟩⟩
  have C1 := Lib.hid (qAsk_any 7 _ 2 [lWeb, lBell] 1 w1 S1 (by decide) (by decide))
  unfold AskOut at C1
  rw [show [lWeb, lBell].length = 2 from rfl] at C1
  rw [web_may] at C1
  simp only [if_true] at C1
  have C2 := Lib.hid (fun w => qParse_any (askB 7 [lWeb, lBell] 1) w (by have := askB_len 7 [lWeb, lBell] 1 web_may; omega))
  have hq : qOut (askB 7 [lWeb, lBell] 1) = (hdMore 7 0, some ([lWeb, lBell], 1, 1), 0, 0) := by
    rw [askB_eq, qOut_ask web_may (by decide) (by decide) (by decide) (by decide)]
    rfl
  rw [hq] at C2
  clear hq b1 S1
  generalize askB 7 [lWeb, lBell] 1 = out at *
  have F1 := Lib.hid f1
  have HW1 := Lib.hid hw1
  clear f1 hw1
  go_enter Try.func27, Try.ntmps27
  go_wp2_with fail
  rw [← HW1.out]
  refine C1.out.mono ?_
  rintro e w2 ⟨rfl, f2⟩
  have F2 := Lib.hid (Gr.trans F1.out f2)
  clear f2 C1 HW1 F1
  go_wp2_with fail
  refine (C2.out _).mono ?_
  rintro e w3 ⟨f3, v, o3, a, cap, rfl, rfl⟩
  have F3 := Lib.hid (Gr.trans F2.out f3)
  obtain ⟨a', cap', e, s3, -⟩ := SlA.of_own o3
  cases e
  obtain ⟨b, o, rfl, hc⟩ := s3.at1 (l := [lWeb, lBell]) 0 (by decide)
  rw [Nat.add_zero] at hc
  have hc' : w3.cell? ⟨b, o, none⟩ = some (.string ⟨#[119, 101, 98]⟩) := hc
  have hN : ∀ X, (w3.alloc X).cell? ⟨b, o, none⟩ = some (.string ⟨#[119, 101, 98]⟩) := fun X => by rw [World.cell?_alloc_old _ _ _ (Nat.ne_of_lt (lt_of_cell hc'))]; exact hc'
  clear f3 C2 F2 o3 s3 hc hc'
  go_wp2_with fail
  go_ret
  exact ⟨rfl, F3.out.alloc _⟩
end Go.Proofs.Ytkclgemkeifbaaa
