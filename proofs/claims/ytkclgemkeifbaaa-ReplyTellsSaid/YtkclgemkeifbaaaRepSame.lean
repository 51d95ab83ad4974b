/-
  The law's same: a record as it was read against the record that the reference wrote.
-/
import Derived.Test.YtkclgemkeifbaaaRepRef
import Derived.Test.YtkclgemkeifbaaaRepLaw2
import Derived.Laws.StructEq
import Derived.ChangeKeysEq
namespace Go.Proofs.Ytkclgemkeifbaaa
open Go.RowKit Go.Proofs

set_option maxHeartbeats 1000000 in
theorem eql_u8x4 (w : World) (d : Nat) (a0 a1 a2 a3 b0 b1 b2 b3 : Int) : (Op.equalIn (d + 2) 108 (.agg #[.int .u8 a0, .int .u8 a1, .int .u8 a2, .int .u8 a3]) (.agg #[.int .u8 b0, .int .u8 b1, .int .u8 b2, .int .u8 b3])).run Try.prog w =
    .ok (a0 == b0 && (a1 == b1 && (a2 == b2 && a3 == b3))) w := by
  obtain ⟨i, hi, _⟩ := Option.map_eq_some_iff.1 Try.infou8
  rw [run_equalIn_array w (d + 1) _ _ Try.underlying108 hi, Try.cellsu8]
  have hp : ∀ (xs : Array Value) (w : World), ∀ j v, xs[j]? = some v → v.oneCell' = true → (part 5 xs (j * 1)).run Try.prog w = .ok v w := by
    intro xs w j v h1 h2
    simp [part, run_sizeOf, hi, Try.cellsu8, h1, go_sem]
  have hr : List.range 4 = [0, 1, 2, 3] := rfl
  rw [hr]
  have px0 : ∀ w, (part 5 #[.int .u8 a0, .int .u8 a1, .int .u8 a2, .int .u8 a3] 0).run Try.prog w = .ok (.int .u8 a0) w := fun w => hp _ w 0 _ rfl rfl
  have px1 : ∀ w, (part 5 #[.int .u8 a0, .int .u8 a1, .int .u8 a2, .int .u8 a3] 1).run Try.prog w = .ok (.int .u8 a1) w := fun w => hp _ w 1 _ rfl rfl
  have px2 : ∀ w, (part 5 #[.int .u8 a0, .int .u8 a1, .int .u8 a2, .int .u8 a3] 2).run Try.prog w = .ok (.int .u8 a2) w := fun w => hp _ w 2 _ rfl rfl
  have px3 : ∀ w, (part 5 #[.int .u8 a0, .int .u8 a1, .int .u8 a2, .int .u8 a3] 3).run Try.prog w = .ok (.int .u8 a3) w := fun w => hp _ w 3 _ rfl rfl
  have py0 : ∀ w, (part 5 #[.int .u8 b0, .int .u8 b1, .int .u8 b2, .int .u8 b3] 0).run Try.prog w = .ok (.int .u8 b0) w := fun w => hp _ w 0 _ rfl rfl
  have py1 : ∀ w, (part 5 #[.int .u8 b0, .int .u8 b1, .int .u8 b2, .int .u8 b3] 1).run Try.prog w = .ok (.int .u8 b1) w := fun w => hp _ w 1 _ rfl rfl
  have py2 : ∀ w, (part 5 #[.int .u8 b0, .int .u8 b1, .int .u8 b2, .int .u8 b3] 2).run Try.prog w = .ok (.int .u8 b2) w := fun w => hp _ w 2 _ rfl rfl
  have py3 : ∀ w, (part 5 #[.int .u8 b0, .int .u8 b1, .int .u8 b2, .int .u8 b3] 3).run Try.prog w = .ok (.int .u8 b3) w := fun w => hp _ w 3 _ rfl rfl
  have he : ∀ (w : World) (a b : Int), (Op.equalIn (d + 1) 5 (.int .u8 a) (.int .u8 b)).run Try.prog w = .ok (a == b) w := fun w a b => run_equalIn_int w d _ _ _ a b Try.underlying5
  simp only [Op.eqItems, Sem.run_bind, Nat.mul_one, px0, py0, Result.andThen_ok, he]
  cases h0 : (a0 == b0) <;> cases h1 : (a1 == b1) <;> cases h2 : (a2 == b2) <;> cases h3 : (a3 == b3) <;> simp [*]

theorem RRec.typ_of (r : RRec) (h : r.code = 0) : r.typ = 1 ∨ r.typ = 33 := by
  unfold RRec.code at h
  split at h
  · exact .inl ‹_›
  · split at h
    · exact .inr ‹_›
    · omega

set_option maxHeartbeats 4000000 in
set_option maxRecDepth 100000 in
theorem same24_any (r : RRec) (hf : r.Fits) (hc : r.code = 0) (a : Option Addr) (c : Nat) (b : Option Addr) (d : Nat) (W : World)
    (hs : SlA W a r.plain.target.length c (strVs r.plain.target)) (ht : SlA W b r.target.length d (strVs r.target)) :
    Calls Try.prog 42 #[.agg (r.plain.arr a c), .agg (r.refArr b d)] W fun e w' => e = .returned (.bool true) ∧ Gr W w' := by
  have heq : ∀ (w : World) (a0 a1 a2 a3 : Int), (Op.equalIn 10000 108 (.agg #[.int .u8 a0, .int .u8 a1, .int .u8 a2, .int .u8 a3]) (.agg #[.int .u8 a0, .int .u8 a1, .int .u8 a2, .int .u8 a3])).run Try.prog w = .ok true w := fun w a0 a1 a2 a3 => by
    rw [eql_u8x4 w 9998]; simp
  have hle := hs.le
  have hmx := hs.max
  have hle' := ht.le
  have hmx' := ht.max
  have HF := Lib.hid hf
  obtain ⟨w1, hw1⟩ : ∃ w1, w1 = W.alloc (.cells (r.plain.arr a c) 110) := ⟨_, rfl⟩
  have f1 : Gr W w1 := by rw [hw1]; exact (Fr.refl _ _).alloc _
  have s1 : w1.heap.size = W.heap.size + 1 := by rw [hw1]; simp
  have b1 : w1.heap[W.heap.size]? = some (.cells (r.plain.arr a c) 110 (0, 0)) := by rw [hw1, heap_alloc_if, if_pos rfl]
  obtain ⟨w2, hw2⟩ : ∃ w2, w2 = w1.alloc (.cells (r.refArr b d) 112) := ⟨_, rfl⟩
  have f2 : Gr w1 w2 := by rw [hw2]; exact (Fr.refl _ _).alloc _
  have b2 : w2.heap[W.heap.size + 1]? = some (.cells (r.refArr b d) 112 (0, 0)) := by rw [hw2, heap_alloc_if, if_pos s1.symm]
  have b3 : w2.heap[W.heap.size]? = some (.cells (r.plain.arr a c) 110 (0, 0)) := by rw [f2.block _ (by omega) (fun h => h)]; exact b1
  have F2 := Lib.hid (Gr.trans f1 f2)
  have BX := Lib.hid (show Bx w2 W.heap.size (r.plain.cells a c) from Bx.of_block b3)
  have BY := Lib.hid (show Bx w2 (W.heap.size + 1) (r.refCells b d) from Bx.of_block b2)
  have HS := Lib.hid (hs.keep F2.out (fun _ _ h => h))
  have HT := Lib.hid (ht.keep F2.out (fun _ _ h => h))
  have HW1 := Lib.hid hw1
  have HW2 := Lib.hid hw2
  have S1 := Lib.hid s1
  clear hw1 hw2 f1 f2 b1 b2 b3 hs ht s1 hf
  have hty := r.typ_of hc
  obtain ⟨typ, ttl, a0, a1, a2, a3, prio, weight, port, target⟩ := r
  obtain ⟨-, -, -, -, -, -, -, -, -⟩ := HF.out
  have y0 := BY.out 0 _ rfl
  have y1 := BY.out 1 _ rfl
  have y2 := BY.out 2 _ rfl
  have y3 := BY.out 3 _ rfl
  have y4 := BY.out 4 _ rfl
  have y5 := BY.out 5 _ rfl
  have y6 := BY.out 6 _ rfl
  have y7 := BY.out 7 _ rfl
  have y8 := BY.out 8 _ rfl
  have y9 := BY.out 9 _ rfl
  clear HF hc BY
  simp only at hty hle' y0 y1 y2 y3 y4 y5 y6 y7 y8 y9 HT HW2 ⊢
  rcases hty with rfl | rfl
  · simp only [RRec.plain, if_true] at BX HS HW1 hle ⊢
    have x0 := BX.out 0 _ rfl
    have x1 := BX.out 1 _ rfl
    have x2 := BX.out 2 _ rfl
    have x3 := BX.out 3 _ rfl
    have x4 := BX.out 4 _ rfl
    have x5 := BX.out 5 _ rfl
    have x6 := BX.out 6 _ rfl
    have x7 := BX.out 7 _ rfl
    have x8 := BX.out 8 _ rfl
    have x9 := BX.out 9 _ rfl
    simp only at x0 x1 x2 x3 x4 x5 x6 x7 x8 x9
    clear BX HS
    go_enter Try.func42, Try.ntmps42
    go_upto_region 1 with fail
    rw [← HW1.out, ← HW2.out]
    clear HW1 HW2 S1
    go_wp2_with fail
    go_ret
    exact ⟨rfl, F2.out⟩
  · simp only [RRec.plain] at BX HS HW1 hle ⊢
    have x0 := BX.out 0 _ rfl
    have x1 := BX.out 1 _ rfl
    have x2 := BX.out 2 _ rfl
    have x3 := BX.out 3 _ rfl
    have x4 := BX.out 4 _ rfl
    have x5 := BX.out 5 _ rfl
    have x6 := BX.out 6 _ rfl
    have x7 := BX.out 7 _ rfl
    have x8 := BX.out 8 _ rfl
    have x9 := BX.out 9 _ rfl
    simp only [show ((33 : Int) = 1) = False from by decide, if_false] at x0 x1 x2 x3 x4 x5 x6 x7 x8 x9 HS HW1 hle ⊢
    have CS := Lib.hid (refSame21_any a c target b d target w2 HS.out HT.out)
    rw [show decide (target = target) = true from decide_eq_true rfl] at CS
    clear BX HS
    go_enter Try.func42, Try.ntmps42
    go_upto_region 1 with fail
    rw [← HW1.out, ← HW2.out]
    clear HW1 HW2 S1
    go_wp2_with fail
    refine CS.out.mono ?_
    rintro e w3 ⟨rfl, f3⟩
    have F3 := Lib.hid (Gr.trans F2.out f3)
    clear f3 CS x0 x1 x2 x3 x4 x5 x6 x7 x8 x9
    go_wp2_with fail
    go_ret
    exact ⟨rfl, F3.out⟩
end Go.Proofs.Ytkclgemkeifbaaa
