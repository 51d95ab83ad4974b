/-
  The walk of ReplyParses.
-/
import Derived.Test.YtkclgemkeifbaaaRepSpoilt
import Derived.Test.YtkclgemkeifbaaaRepParses
import Derived.Test.YtkclgemkeifbaaaSpoiltOpen
namespace Go.Proofs.Ytkclgemkeifbaaa
open Go.RowKit Go.Proofs

set_option maxHeartbeats 16000000 in
set_option maxRecDepth 100000 in
theorem replyParses_walk (s : List UInt8) (p0 p1 : Int) (hp0 : 0 ≤ p0 ∧ p0 ≤ 255) (x : LQ) (hx : x.Fits) (a : Option Addr) (cap : Nat) (b : Option Addr) (capl : Nat) (LP : List RowR) (W : World) (hs : s.length ≤ 9223372036854775807) (hn : SlA W a x.name.length cap (strVs x.name)) (hL : RowsAt W b capl LP) :
    Calls Try.prog 14 #[.agg (Spoilt.arr s p0 p1 x a cap b capl LP.length)] W fun e w' => e = .returned (.bool true) ∧ Gr W w' := by
  have hle := hL.row.le
  have hmx := hL.row.max
  have hnl := hn.le
  have hnm := hn.max
  obtain ⟨w1, hw1⟩ : ∃ w1, w1 = W.alloc (.cells (Spoilt.arr s p0 p1 x a cap b capl LP.length) 116) := ⟨_, rfl⟩
  have f1 : Gr W w1 := by rw [hw1]; exact (Fr.refl _ _).alloc _
  have X1 := Lib.hid (Bx.of_block (show w1.heap[W.heap.size]? = some (.cells (Spoilt.arr s p0 p1 x a cap b capl LP.length) 116 (0, 0)) by rw [hw1, heap_alloc_if, if_pos rfl]))
  have F1 := Lib.hid f1
  have HW1 := Lib.hid hw1
  have HX := Lib.hid hx
  have S0 := Lib.hid (fun w => speaks24_any w)
  have SP := Lib.hid (fun w (f : Gr W w) => spoilt_any x hx a cap b capl LP p0 p1 hp0 w (hn.keep f (fun _ _ h => h)) (hL.keep f))
  obtain ⟨m, hms, hm, hite, hmin⟩ : ∃ m : Nat, m ≤ s.length ∧ m ≤ 100 ∧ (if (100 : Int) < (s.length : Int) then (100 : Int) else (s.length : Int)) = (m : Int) ∧ min (s.length : Int) 100 = (m : Int) :=
    ⟨min s.length 100, by omega, by omega, by split <;> omega, by omega⟩
  have zs := mk_size s
  have hext : (ByteArray.mk s.toArray).extract 0 m = ⟨(s.take m).toArray⟩ := by rw [mk_extract]; simp
  clear hw1 f1 hn hL hx
  go_enter Try.func14, Try.ntmps14
  go_upto_region 1 with fail
  rw [← HW1.out]
  clear HW1
  go_wp2_with fail
  refine (S0.out _).mono ?_
  rintro e w2 ⟨rfl, f2⟩
  have X2 := Lib.hid (X1.out.keep f2 (fun h => h))
  have F2 := Lib.hid (Gr.trans F1.out f2)
  have C1 := Lib.hid (parses_any (s.take m) w2 (by rw [List.length_take]; omega))
  clear f2 X1 F1 S0
  have x0 := X2.out 0 _ rfl
  go_upto_region 3 with fail
  go_wp2_with fail
  refine C1.out.mono ?_
  rintro e w3 ⟨rfl, f3⟩
  have X3 := Lib.hid (X2.out.keep f3 (fun h => h))
  have F3 := Lib.hid (Gr.trans F2.out f3)
  have C2 := Lib.hid (SP.out w3 F3.out)
  clear f3 X2 F2 SP C1 x0
  have x1 := X3.out 1 _ rfl
  have x2 := X3.out 2 _ rfl
  have x3 := X3.out 3 _ rfl
  have x4 := X3.out 4 _ rfl
  have x5 := X3.out 5 _ rfl
  have x6 := X3.out 6 _ rfl
  have x7 := X3.out 7 _ rfl
  have x8 := X3.out 8 _ rfl
  have x9 := X3.out 9 _ rfl
  have x10 := X3.out 10 _ rfl
  have x11 := X3.out 11 _ rfl
  go_wp2_with fail
  refine C2.out.mono ?_
  rintro e w4 ⟨l, rfl, hl, f4⟩
  have F4 := Lib.hid (Gr.trans F3.out f4)
  have C3 := Lib.hid (parses_any l w4 (by omega))
  clear f4 X3 C2 x1 x2 x3 x4 x5 x6 x7 x8 x9 x10 x11 F3
  go_wp2_with fail
  refine C3.out.mono ?_
  rintro e w5 ⟨rfl, f5⟩
  have F5 := Lib.hid (Gr.trans F4.out f5)
  clear f5 F4 C3
  go_wp2_with fail
  go_ret
  exact ⟨rfl, F5.out⟩
end Go.Proofs.Ytkclgemkeifbaaa
