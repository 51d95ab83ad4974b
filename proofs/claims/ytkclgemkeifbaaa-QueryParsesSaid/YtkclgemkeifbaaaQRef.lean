/-
  The reference of queries: Parse (printed by gen_qref.py).
-/
import Derived.Test.YtkclgemkeifbaaaQSpec
namespace Go.Proofs.Ytkclgemkeifbaaa
open Go.RowKit Go.Proofs

theorem get2_any (s : List UInt8) (i : Nat) (z : Int) (hz : z = i) (w : World) (h : i + 1 < s.length) (hs : s.length ≤ 100000) : Calls Try.prog 63 #[.string ⟨s.toArray⟩, .int .i64 z] w fun e w' => e = .returned (.int .i64 (numAt s i)) ∧ Gr w w' := by
  have := refGet2_any ⟨s.toArray⟩ i z hz w (by rw [mk_size]; exact h) (by rw [mk_size]; omega)
  rw [mk_list] at this
  refine this.mono ?_
  rintro e w' ⟨rfl, n, rfl⟩
  exact ⟨rfl, (Fr.refl _ _).drewN n⟩
theorem numAt_bt (s : List UInt8) (i : Nat) (h : i + 1 < s.length) : numAt s i = ((256 * bt s i + bt s (i + 1) : Nat) : Int) := by
  have h1 : bt s i = s[i].toNat := by unfold bt; rw [List.getD_eq_getElem?_getD, List.getElem?_eq_getElem (by omega)]; rfl
  have h2 : bt s (i + 1) = s[i + 1].toNat := by unfold bt; rw [List.getD_eq_getElem?_getD, List.getElem?_eq_getElem h]; rfl
  unfold numAt
  rw [List.drop_eq_getElem_cons (by omega), List.drop_eq_getElem_cons h]
  simp only [List.take_succ_cons, List.take_zero, getNum, List.foldl_cons, List.foldl_nil]
  rw [h1, h2]; simp
theorem resp_bt (s : List UInt8) (h : 12 ≤ s.length) : (hdRead s).resp = decide (128 ≤ bt s 2) := by
  have h1 := numAt_bt s 2 (by omega)
  have h2 := bt_lt s 2
  have h3 := bt_lt s (2 + 1)
  show (numAt s 2 / 32768 % 2 == 1) = _
  rw [Bool.eq_iff_iff, beq_iff_eq, decide_eq_true_iff]
  omega
theorem op_bt (s : List UInt8) (h : 12 ≤ s.length) : (hdRead s).op = ((bt s 2 / 8 % 16 : Nat) : Int) := by
  have h1 := numAt_bt s 2 (by omega)
  have h2 := bt_lt s 2
  have h3 := bt_lt s (2 + 1)
  show numAt s 2 / 2048 % 16 = _
  omega
/-- what the reference's Parse answers -/
def RQEnd (x : Option (List Lbl × Int × Int) × Int × Int) (w : World) (e : Ending) (w' : World) : Prop :=
  Gr w w' ∧ match x with
  | (none, code, er) => e = .returned (.tuple #[.agg #[.bool false, .slice none 0 0, .int .i64 0, .int .i64 0], .int .i64 code, .int .i64 er])
  | (some (l, t, c), code, er) => ∃ a cap, SlA w' a l.length cap (strVs l) ∧ e = .returned (.tuple #[.agg #[.bool true, .slice a l.length cap, .int .i64 t, .int .i64 c], .int .i64 code, .int .i64 er])
theorem fr_four (w : World) (b : Nat) (v0 v1 v2 v3 : Value) : Fr (fun k => k = b) w ((((w.setCell ⟨b, 0, none⟩ v0).setCell ⟨b, 1, none⟩ v1).setCell ⟨b, 2, none⟩ v2).setCell ⟨b, 3, none⟩ v3) :=
  ((((Fr.refl (fun k => k = b) w).setCell (p := ⟨b, 0, none⟩) (.inl rfl) v0).setCell (p := ⟨b, 1, none⟩) (.inl rfl) v1).setCell (p := ⟨b, 2, none⟩) (.inl rfl) v2).setCell (p := ⟨b, 3, none⟩) (.inl rfl) v3

set_option maxHeartbeats 4000000 in
set_option maxRecDepth 100000 in
theorem qRef_A (s : List UInt8) (W : World) (hs : s.length ≤ 100000) (h12 : s.length < 12) : Calls Try.prog 29 #[.string ⟨s.toArray⟩] W (RQEnd (none, 0, 2) W) := by
  have zs := mk_size s
  obtain ⟨w1, hw1⟩ : ∃ w1, w1 = W.alloc (.cells #[.bool false, .slice none 0 0, .int .i64 0, .int .i64 0] 71) := ⟨_, rfl⟩
  have f1 : Gr W w1 := by rw [hw1]; exact (Fr.refl _ _).alloc _
  have b1 : w1.heap[W.heap.size]? = some (.cells #[.bool false, .slice none 0 0, .int .i64 0, .int .i64 0] 71 (0, 0)) := by rw [hw1, heap_alloc_if, if_pos rfl]
  have s1 : W.heap.size < w1.heap.size := by rw [hw1]; simp
  have HW1 := Lib.hid hw1
  have F1 := Lib.hid f1
  have B1 := Lib.hid b1
  clear hw1 f1 b1
  go_enter Try.func29, Try.ntmps29
  go_upto_region 1 with fail
  rw [← HW1.out]
  clear HW1
  have t0 : w1.cell? ⟨W.heap.size, 0, none⟩ = some (.bool false) := by rw [Lib.cell_of_heap B1.out]; rfl
  have y0 : w1.frozen? ⟨W.heap.size, 0, none⟩ = false := Lib.frozen_of_heap B1.out 0
  have t1 : w1.cell? ⟨W.heap.size, 1, none⟩ = some (.slice none 0 0) := by rw [Lib.cell_of_heap B1.out]; rfl
  have y1 : w1.frozen? ⟨W.heap.size, 1, none⟩ = false := Lib.frozen_of_heap B1.out 1
  have t2 : w1.cell? ⟨W.heap.size, 2, none⟩ = some (.int .i64 0) := by rw [Lib.cell_of_heap B1.out]; rfl
  have y2 : w1.frozen? ⟨W.heap.size, 2, none⟩ = false := Lib.frozen_of_heap B1.out 2
  have t3 : w1.cell? ⟨W.heap.size, 3, none⟩ = some (.int .i64 0) := by rw [Lib.cell_of_heap B1.out]; rfl
  have y3 : w1.frozen? ⟨W.heap.size, 3, none⟩ = false := Lib.frozen_of_heap B1.out 3
  go_wp2_with fail
  refine bodyPost_ret (v := .tuple #[.agg #[.bool false, .slice none 0 0, .int .i64 0, .int .i64 0], .int .i64 0, .int .i64 2]) (by simp [results, Try.results29, go_sem, t0, t1, t2, t3]) rfl ⟨?_, rfl⟩
  exact gr_of_new ((new_of_gr F1.out).trans (fr_four _ _ _ _ _ _) (fun k h => .inl (by omega)))

set_option maxHeartbeats 4000000 in
set_option maxRecDepth 100000 in
theorem qRef_B (s : List UInt8) (W : World) (hs : s.length ≤ 100000) (h12 : ¬ s.length < 12) (hr : 128 ≤ bt s 2) : Calls Try.prog 29 #[.string ⟨s.toArray⟩] W (RQEnd (none, 0, 8) W) := by
  have zs := mk_size s
  obtain ⟨w1, hw1⟩ : ∃ w1, w1 = W.alloc (.cells #[.bool false, .slice none 0 0, .int .i64 0, .int .i64 0] 71) := ⟨_, rfl⟩
  have f1 : Gr W w1 := by rw [hw1]; exact (Fr.refl _ _).alloc _
  have b1 : w1.heap[W.heap.size]? = some (.cells #[.bool false, .slice none 0 0, .int .i64 0, .int .i64 0] 71 (0, 0)) := by rw [hw1, heap_alloc_if, if_pos rfl]
  have s1 : W.heap.size < w1.heap.size := by rw [hw1]; simp
  have HW1 := Lib.hid hw1
  have F1 := Lib.hid f1
  have B1 := Lib.hid b1
  clear hw1 f1 b1
  obtain ⟨b, hb⟩ : ∃ b, b = bt s 2 := ⟨_, rfl⟩
  have hb256 : b < 256 := by rw [hb]; exact bt_lt _ _
  have i2 : ∀ w, (Instr.index 9 (.string ⟨s.toArray⟩) (.int .i64 2)).run Try.prog w = .ok (.int .u8 b) w := fun w => index_bt s 2 (by omega) b hb w
  have hr : 128 ≤ b := by omega
  clear hb
  go_enter Try.func29, Try.ntmps29
  go_upto_region 1 with fail
  rw [← HW1.out]
  clear HW1
  have t0 : w1.cell? ⟨W.heap.size, 0, none⟩ = some (.bool false) := by rw [Lib.cell_of_heap B1.out]; rfl
  have y0 : w1.frozen? ⟨W.heap.size, 0, none⟩ = false := Lib.frozen_of_heap B1.out 0
  have t1 : w1.cell? ⟨W.heap.size, 1, none⟩ = some (.slice none 0 0) := by rw [Lib.cell_of_heap B1.out]; rfl
  have y1 : w1.frozen? ⟨W.heap.size, 1, none⟩ = false := Lib.frozen_of_heap B1.out 1
  have t2 : w1.cell? ⟨W.heap.size, 2, none⟩ = some (.int .i64 0) := by rw [Lib.cell_of_heap B1.out]; rfl
  have y2 : w1.frozen? ⟨W.heap.size, 2, none⟩ = false := Lib.frozen_of_heap B1.out 2
  have t3 : w1.cell? ⟨W.heap.size, 3, none⟩ = some (.int .i64 0) := by rw [Lib.cell_of_heap B1.out]; rfl
  have y3 : w1.frozen? ⟨W.heap.size, 3, none⟩ = false := Lib.frozen_of_heap B1.out 3
  go_wp2_with fail
  refine bodyPost_ret (v := .tuple #[.agg #[.bool false, .slice none 0 0, .int .i64 0, .int .i64 0], .int .i64 0, .int .i64 8]) (by simp [results, Try.results29, go_sem, t0, t1, t2, t3]) rfl ⟨?_, rfl⟩
  exact gr_of_new ((new_of_gr F1.out).trans (fr_four _ _ _ _ _ _) (fun k h => .inl (by omega)))

set_option maxHeartbeats 4000000 in
set_option maxRecDepth 100000 in
theorem qRef_C (s : List UInt8) (W : World) (hs : s.length ≤ 100000) (h12 : ¬ s.length < 12) (hr : bt s 2 < 128) (ho : bt s 2 / 8 % 16 ≠ 0) : Calls Try.prog 29 #[.string ⟨s.toArray⟩] W (RQEnd (none, 4, 0) W) := by
  have zs := mk_size s
  obtain ⟨w1, hw1⟩ : ∃ w1, w1 = W.alloc (.cells #[.bool false, .slice none 0 0, .int .i64 0, .int .i64 0] 71) := ⟨_, rfl⟩
  have f1 : Gr W w1 := by rw [hw1]; exact (Fr.refl _ _).alloc _
  have b1 : w1.heap[W.heap.size]? = some (.cells #[.bool false, .slice none 0 0, .int .i64 0, .int .i64 0] 71 (0, 0)) := by rw [hw1, heap_alloc_if, if_pos rfl]
  have s1 : W.heap.size < w1.heap.size := by rw [hw1]; simp
  have HW1 := Lib.hid hw1
  have F1 := Lib.hid f1
  have B1 := Lib.hid b1
  clear hw1 f1 b1
  obtain ⟨b, hb⟩ : ∃ b, b = bt s 2 := ⟨_, rfl⟩
  have hb256 : b < 256 := by rw [hb]; exact bt_lt _ _
  have i2 : ∀ w, (Instr.index 9 (.string ⟨s.toArray⟩) (.int .i64 2)).run Try.prog w = .ok (.int .u8 b) w := fun w => index_bt s 2 (by omega) b hb w
  have hr : b < 128 := by omega
  have ho1 : ¬ b / 8 % 16 = 0 := by rw [hb]; exact ho
  have ho2 : (((b : Int) / 8 % 16) == 0) = false := by simp; omega
  have ho3 : (((b : Int) / 8 % 16) != 0) = true := by simp; omega
  clear ho ho1 hb
  go_enter Try.func29, Try.ntmps29
  go_upto_region 1 with fail
  rw [← HW1.out]
  clear HW1
  have t0 : w1.cell? ⟨W.heap.size, 0, none⟩ = some (.bool false) := by rw [Lib.cell_of_heap B1.out]; rfl
  have y0 : w1.frozen? ⟨W.heap.size, 0, none⟩ = false := Lib.frozen_of_heap B1.out 0
  have t1 : w1.cell? ⟨W.heap.size, 1, none⟩ = some (.slice none 0 0) := by rw [Lib.cell_of_heap B1.out]; rfl
  have y1 : w1.frozen? ⟨W.heap.size, 1, none⟩ = false := Lib.frozen_of_heap B1.out 1
  have t2 : w1.cell? ⟨W.heap.size, 2, none⟩ = some (.int .i64 0) := by rw [Lib.cell_of_heap B1.out]; rfl
  have y2 : w1.frozen? ⟨W.heap.size, 2, none⟩ = false := Lib.frozen_of_heap B1.out 2
  have t3 : w1.cell? ⟨W.heap.size, 3, none⟩ = some (.int .i64 0) := by rw [Lib.cell_of_heap B1.out]; rfl
  have y3 : w1.frozen? ⟨W.heap.size, 3, none⟩ = false := Lib.frozen_of_heap B1.out 3
  go_wp2_with fail
  refine bodyPost_ret (v := .tuple #[.agg #[.bool false, .slice none 0 0, .int .i64 0, .int .i64 0], .int .i64 4, .int .i64 0]) (by simp [results, Try.results29, go_sem, t0, t1, t2, t3]) rfl ⟨?_, rfl⟩
  exact gr_of_new ((new_of_gr F1.out).trans (fr_four _ _ _ _ _ _) (fun k h => .inl (by omega)))

set_option maxHeartbeats 4000000 in
set_option maxRecDepth 100000 in
theorem qRef_D1 (s : List UInt8) (W : World) (hs : s.length ≤ 100000) (h12 : ¬ s.length < 12) (hr : bt s 2 < 128) (ho : bt s 2 / 8 % 16 = 0) (q4 : numAt s 4 ≠ 1) : Calls Try.prog 29 #[.string ⟨s.toArray⟩] W (RQEnd (none, 1, 0) W) := by
  have zs := mk_size s
  obtain ⟨w1, hw1⟩ : ∃ w1, w1 = W.alloc (.cells #[.bool false, .slice none 0 0, .int .i64 0, .int .i64 0] 71) := ⟨_, rfl⟩
  have f1 : Gr W w1 := by rw [hw1]; exact (Fr.refl _ _).alloc _
  have b1 : w1.heap[W.heap.size]? = some (.cells #[.bool false, .slice none 0 0, .int .i64 0, .int .i64 0] 71 (0, 0)) := by rw [hw1, heap_alloc_if, if_pos rfl]
  have s1 : W.heap.size < w1.heap.size := by rw [hw1]; simp
  have HW1 := Lib.hid hw1
  have F1 := Lib.hid f1
  have B1 := Lib.hid b1
  clear hw1 f1 b1
  obtain ⟨b, hb⟩ : ∃ b, b = bt s 2 := ⟨_, rfl⟩
  have hb256 : b < 256 := by rw [hb]; exact bt_lt _ _
  have i2 : ∀ w, (Instr.index 9 (.string ⟨s.toArray⟩) (.int .i64 2)).run Try.prog w = .ok (.int .u8 b) w := fun w => index_bt s 2 (by omega) b hb w
  have hr : b < 128 := by omega
  have ho1 : b / 8 % 16 = 0 := by rw [hb]; exact ho
  have ho2 : (((b : Int) / 8 % 16) == 0) = true := by simp; omega
  have ho3 : (((b : Int) / 8 % 16) != 0) = false := by simp; omega
  clear ho ho1 hb
  have G4 := Lib.hid (fun w => get2_any s 4 4 rfl w (by omega) hs)
  obtain ⟨n4, hn4⟩ : ∃ n, n = numAt s 4 := ⟨_, rfl⟩
  rw [← hn4] at G4
  have e4 : (n4 == 1) = false := by rw [hn4]; simpa using q4
  have d4 : (n4 != 1) = true := by simp [bne, e4]
  clear hn4 q4
  go_enter Try.func29, Try.ntmps29
  go_upto_region 1 with fail
  rw [← HW1.out]
  clear HW1
  go_wp2_with fail
  refine (G4.out w1).mono ?_
  rintro e w2 ⟨rfl, f⟩
  have F2 := Lib.hid (Gr.trans F1.out f)
  have zw2 := f.size
  have B2 := Lib.hid (show w2.heap[W.heap.size]? = some (.cells #[.bool false, .slice none 0 0, .int .i64 0, .int .i64 0] 71 (0, 0)) by rw [f.block _ (by omega) (fun h => h)]; exact B1.out)
  clear f B1 F1
  have t0 : w2.cell? ⟨W.heap.size, 0, none⟩ = some (.bool false) := by rw [Lib.cell_of_heap B2.out]; rfl
  have y0 : w2.frozen? ⟨W.heap.size, 0, none⟩ = false := Lib.frozen_of_heap B2.out 0
  have t1 : w2.cell? ⟨W.heap.size, 1, none⟩ = some (.slice none 0 0) := by rw [Lib.cell_of_heap B2.out]; rfl
  have y1 : w2.frozen? ⟨W.heap.size, 1, none⟩ = false := Lib.frozen_of_heap B2.out 1
  have t2 : w2.cell? ⟨W.heap.size, 2, none⟩ = some (.int .i64 0) := by rw [Lib.cell_of_heap B2.out]; rfl
  have y2 : w2.frozen? ⟨W.heap.size, 2, none⟩ = false := Lib.frozen_of_heap B2.out 2
  have t3 : w2.cell? ⟨W.heap.size, 3, none⟩ = some (.int .i64 0) := by rw [Lib.cell_of_heap B2.out]; rfl
  have y3 : w2.frozen? ⟨W.heap.size, 3, none⟩ = false := Lib.frozen_of_heap B2.out 3
  go_wp2_with fail
  refine bodyPost_ret (v := .tuple #[.agg #[.bool false, .slice none 0 0, .int .i64 0, .int .i64 0], .int .i64 1, .int .i64 0]) (by simp [results, Try.results29, go_sem, t0, t1, t2, t3]) rfl ⟨?_, rfl⟩
  exact gr_of_new ((new_of_gr F2.out).trans (fr_four _ _ _ _ _ _) (fun k h => .inl (by omega)))

set_option maxHeartbeats 4000000 in
set_option maxRecDepth 100000 in
theorem qRef_D2 (s : List UInt8) (W : World) (hs : s.length ≤ 100000) (h12 : ¬ s.length < 12) (hr : bt s 2 < 128) (ho : bt s 2 / 8 % 16 = 0) (q4 : numAt s 4 = 1) (q6 : numAt s 6 ≠ 0) : Calls Try.prog 29 #[.string ⟨s.toArray⟩] W (RQEnd (none, 1, 0) W) := by
  have zs := mk_size s
  obtain ⟨w1, hw1⟩ : ∃ w1, w1 = W.alloc (.cells #[.bool false, .slice none 0 0, .int .i64 0, .int .i64 0] 71) := ⟨_, rfl⟩
  have f1 : Gr W w1 := by rw [hw1]; exact (Fr.refl _ _).alloc _
  have b1 : w1.heap[W.heap.size]? = some (.cells #[.bool false, .slice none 0 0, .int .i64 0, .int .i64 0] 71 (0, 0)) := by rw [hw1, heap_alloc_if, if_pos rfl]
  have s1 : W.heap.size < w1.heap.size := by rw [hw1]; simp
  have HW1 := Lib.hid hw1
  have F1 := Lib.hid f1
  have B1 := Lib.hid b1
  clear hw1 f1 b1
  obtain ⟨b, hb⟩ : ∃ b, b = bt s 2 := ⟨_, rfl⟩
  have hb256 : b < 256 := by rw [hb]; exact bt_lt _ _
  have i2 : ∀ w, (Instr.index 9 (.string ⟨s.toArray⟩) (.int .i64 2)).run Try.prog w = .ok (.int .u8 b) w := fun w => index_bt s 2 (by omega) b hb w
  have hr : b < 128 := by omega
  have ho1 : b / 8 % 16 = 0 := by rw [hb]; exact ho
  have ho2 : (((b : Int) / 8 % 16) == 0) = true := by simp; omega
  have ho3 : (((b : Int) / 8 % 16) != 0) = false := by simp; omega
  clear ho ho1 hb
  have G4 := Lib.hid (fun w => get2_any s 4 4 rfl w (by omega) hs)
  have G6 := Lib.hid (fun w => get2_any s 6 6 rfl w (by omega) hs)
  rw [q4] at G4
  obtain ⟨n6, hn6⟩ : ∃ n, n = numAt s 6 := ⟨_, rfl⟩
  rw [← hn6] at G6
  have e6 : (n6 == 0) = false := by rw [hn6]; simpa using q6
  have d6 : (n6 != 0) = true := by simp [bne, e6]
  clear hn6 q6
  go_enter Try.func29, Try.ntmps29
  go_upto_region 1 with fail
  rw [← HW1.out]
  clear HW1
  go_wp2_with fail
  refine (G4.out w1).mono ?_
  rintro e w2 ⟨rfl, f⟩
  have F2 := Lib.hid (Gr.trans F1.out f)
  have zw2 := f.size
  have B2 := Lib.hid (show w2.heap[W.heap.size]? = some (.cells #[.bool false, .slice none 0 0, .int .i64 0, .int .i64 0] 71 (0, 0)) by rw [f.block _ (by omega) (fun h => h)]; exact B1.out)
  clear f B1 F1
  go_wp2_with fail
  refine (G6.out w2).mono ?_
  rintro e w3 ⟨rfl, f⟩
  have F3 := Lib.hid (Gr.trans F2.out f)
  have zw3 := f.size
  have B3 := Lib.hid (show w3.heap[W.heap.size]? = some (.cells #[.bool false, .slice none 0 0, .int .i64 0, .int .i64 0] 71 (0, 0)) by rw [f.block _ (by omega) (fun h => h)]; exact B2.out)
  clear f B2 F2
  have t0 : w3.cell? ⟨W.heap.size, 0, none⟩ = some (.bool false) := by rw [Lib.cell_of_heap B3.out]; rfl
  have y0 : w3.frozen? ⟨W.heap.size, 0, none⟩ = false := Lib.frozen_of_heap B3.out 0
  have t1 : w3.cell? ⟨W.heap.size, 1, none⟩ = some (.slice none 0 0) := by rw [Lib.cell_of_heap B3.out]; rfl
  have y1 : w3.frozen? ⟨W.heap.size, 1, none⟩ = false := Lib.frozen_of_heap B3.out 1
  have t2 : w3.cell? ⟨W.heap.size, 2, none⟩ = some (.int .i64 0) := by rw [Lib.cell_of_heap B3.out]; rfl
  have y2 : w3.frozen? ⟨W.heap.size, 2, none⟩ = false := Lib.frozen_of_heap B3.out 2
  have t3 : w3.cell? ⟨W.heap.size, 3, none⟩ = some (.int .i64 0) := by rw [Lib.cell_of_heap B3.out]; rfl
  have y3 : w3.frozen? ⟨W.heap.size, 3, none⟩ = false := Lib.frozen_of_heap B3.out 3
  go_wp2_with fail
  refine bodyPost_ret (v := .tuple #[.agg #[.bool false, .slice none 0 0, .int .i64 0, .int .i64 0], .int .i64 1, .int .i64 0]) (by simp [results, Try.results29, go_sem, t0, t1, t2, t3]) rfl ⟨?_, rfl⟩
  exact gr_of_new ((new_of_gr F3.out).trans (fr_four _ _ _ _ _ _) (fun k h => .inl (by omega)))

set_option maxHeartbeats 4000000 in
set_option maxRecDepth 100000 in
theorem qRef_D3 (s : List UInt8) (W : World) (hs : s.length ≤ 100000) (h12 : ¬ s.length < 12) (hr : bt s 2 < 128) (ho : bt s 2 / 8 % 16 = 0) (q4 : numAt s 4 = 1) (q6 : numAt s 6 = 0) (q8 : numAt s 8 ≠ 0) : Calls Try.prog 29 #[.string ⟨s.toArray⟩] W (RQEnd (none, 1, 0) W) := by
  have zs := mk_size s
  obtain ⟨w1, hw1⟩ : ∃ w1, w1 = W.alloc (.cells #[.bool false, .slice none 0 0, .int .i64 0, .int .i64 0] 71) := ⟨_, rfl⟩
  have f1 : Gr W w1 := by rw [hw1]; exact (Fr.refl _ _).alloc _
  have b1 : w1.heap[W.heap.size]? = some (.cells #[.bool false, .slice none 0 0, .int .i64 0, .int .i64 0] 71 (0, 0)) := by rw [hw1, heap_alloc_if, if_pos rfl]
  have s1 : W.heap.size < w1.heap.size := by rw [hw1]; simp
  have HW1 := Lib.hid hw1
  have F1 := Lib.hid f1
  have B1 := Lib.hid b1
  clear hw1 f1 b1
  obtain ⟨b, hb⟩ : ∃ b, b = bt s 2 := ⟨_, rfl⟩
  have hb256 : b < 256 := by rw [hb]; exact bt_lt _ _
  have i2 : ∀ w, (Instr.index 9 (.string ⟨s.toArray⟩) (.int .i64 2)).run Try.prog w = .ok (.int .u8 b) w := fun w => index_bt s 2 (by omega) b hb w
  have hr : b < 128 := by omega
  have ho1 : b / 8 % 16 = 0 := by rw [hb]; exact ho
  have ho2 : (((b : Int) / 8 % 16) == 0) = true := by simp; omega
  have ho3 : (((b : Int) / 8 % 16) != 0) = false := by simp; omega
  clear ho ho1 hb
  have G4 := Lib.hid (fun w => get2_any s 4 4 rfl w (by omega) hs)
  have G6 := Lib.hid (fun w => get2_any s 6 6 rfl w (by omega) hs)
  have G8 := Lib.hid (fun w => get2_any s 8 8 rfl w (by omega) hs)
  rw [q4] at G4
  rw [q6] at G6
  obtain ⟨n8, hn8⟩ : ∃ n, n = numAt s 8 := ⟨_, rfl⟩
  rw [← hn8] at G8
  have e8 : (n8 == 0) = false := by rw [hn8]; simpa using q8
  have d8 : (n8 != 0) = true := by simp [bne, e8]
  clear hn8 q8
  go_enter Try.func29, Try.ntmps29
  go_upto_region 1 with fail
  rw [← HW1.out]
  clear HW1
  go_wp2_with fail
  refine (G4.out w1).mono ?_
  rintro e w2 ⟨rfl, f⟩
  have F2 := Lib.hid (Gr.trans F1.out f)
  have zw2 := f.size
  have B2 := Lib.hid (show w2.heap[W.heap.size]? = some (.cells #[.bool false, .slice none 0 0, .int .i64 0, .int .i64 0] 71 (0, 0)) by rw [f.block _ (by omega) (fun h => h)]; exact B1.out)
  clear f B1 F1
  go_wp2_with fail
  refine (G6.out w2).mono ?_
  rintro e w3 ⟨rfl, f⟩
  have F3 := Lib.hid (Gr.trans F2.out f)
  have zw3 := f.size
  have B3 := Lib.hid (show w3.heap[W.heap.size]? = some (.cells #[.bool false, .slice none 0 0, .int .i64 0, .int .i64 0] 71 (0, 0)) by rw [f.block _ (by omega) (fun h => h)]; exact B2.out)
  clear f B2 F2
  go_wp2_with fail
  refine (G8.out w3).mono ?_
  rintro e w4 ⟨rfl, f⟩
  have F4 := Lib.hid (Gr.trans F3.out f)
  have zw4 := f.size
  have B4 := Lib.hid (show w4.heap[W.heap.size]? = some (.cells #[.bool false, .slice none 0 0, .int .i64 0, .int .i64 0] 71 (0, 0)) by rw [f.block _ (by omega) (fun h => h)]; exact B3.out)
  clear f B3 F3
  have t0 : w4.cell? ⟨W.heap.size, 0, none⟩ = some (.bool false) := by rw [Lib.cell_of_heap B4.out]; rfl
  have y0 : w4.frozen? ⟨W.heap.size, 0, none⟩ = false := Lib.frozen_of_heap B4.out 0
  have t1 : w4.cell? ⟨W.heap.size, 1, none⟩ = some (.slice none 0 0) := by rw [Lib.cell_of_heap B4.out]; rfl
  have y1 : w4.frozen? ⟨W.heap.size, 1, none⟩ = false := Lib.frozen_of_heap B4.out 1
  have t2 : w4.cell? ⟨W.heap.size, 2, none⟩ = some (.int .i64 0) := by rw [Lib.cell_of_heap B4.out]; rfl
  have y2 : w4.frozen? ⟨W.heap.size, 2, none⟩ = false := Lib.frozen_of_heap B4.out 2
  have t3 : w4.cell? ⟨W.heap.size, 3, none⟩ = some (.int .i64 0) := by rw [Lib.cell_of_heap B4.out]; rfl
  have y3 : w4.frozen? ⟨W.heap.size, 3, none⟩ = false := Lib.frozen_of_heap B4.out 3
  go_wp2_with fail
  refine bodyPost_ret (v := .tuple #[.agg #[.bool false, .slice none 0 0, .int .i64 0, .int .i64 0], .int .i64 1, .int .i64 0]) (by simp [results, Try.results29, go_sem, t0, t1, t2, t3]) rfl ⟨?_, rfl⟩
  exact gr_of_new ((new_of_gr F4.out).trans (fr_four _ _ _ _ _ _) (fun k h => .inl (by omega)))

set_option maxHeartbeats 4000000 in
set_option maxRecDepth 100000 in
theorem qRef_E (s : List UInt8) (W : World) (hs : s.length ≤ 100000) (c : Int) (h12 : ¬ s.length < 12) (hr : bt s 2 < 128) (ho : bt s 2 / 8 % 16 = 0) (q4 : numAt s 4 = 1) (q6 : numAt s 6 = 0) (q8 : numAt s 8 = 0) (hrd : rd s 12 12 [] = .err c) : Calls Try.prog 29 #[.string ⟨s.toArray⟩] W (RQEnd (none, 1, 0) W) := by
  have zs := mk_size s
  obtain ⟨w1, hw1⟩ : ∃ w1, w1 = W.alloc (.cells #[.bool false, .slice none 0 0, .int .i64 0, .int .i64 0] 71) := ⟨_, rfl⟩
  have f1 : Gr W w1 := by rw [hw1]; exact (Fr.refl _ _).alloc _
  have b1 : w1.heap[W.heap.size]? = some (.cells #[.bool false, .slice none 0 0, .int .i64 0, .int .i64 0] 71 (0, 0)) := by rw [hw1, heap_alloc_if, if_pos rfl]
  have s1 : W.heap.size < w1.heap.size := by rw [hw1]; simp
  have HW1 := Lib.hid hw1
  have F1 := Lib.hid f1
  have B1 := Lib.hid b1
  clear hw1 f1 b1
  obtain ⟨b, hb⟩ : ∃ b, b = bt s 2 := ⟨_, rfl⟩
  have hb256 : b < 256 := by rw [hb]; exact bt_lt _ _
  have i2 : ∀ w, (Instr.index 9 (.string ⟨s.toArray⟩) (.int .i64 2)).run Try.prog w = .ok (.int .u8 b) w := fun w => index_bt s 2 (by omega) b hb w
  have hr : b < 128 := by omega
  have ho1 : b / 8 % 16 = 0 := by rw [hb]; exact ho
  have ho2 : (((b : Int) / 8 % 16) == 0) = true := by simp; omega
  have ho3 : (((b : Int) / 8 % 16) != 0) = false := by simp; omega
  clear ho ho1 hb
  have G4 := Lib.hid (fun w => get2_any s 4 4 rfl w (by omega) hs)
  have G6 := Lib.hid (fun w => get2_any s 6 6 rfl w (by omega) hs)
  have G8 := Lib.hid (fun w => get2_any s 8 8 rfl w (by omega) hs)
  rw [q4] at G4
  rw [q6] at G6
  rw [q8] at G8
  clear q4 q6 q8
  have CR := Lib.hid (fun w => refRead21_any s 12 (by omega) hs w)
  have hce := rd_err hrd
  rw [hrd] at CR
  have hc : (c == 0) = false := by rcases hce with rfl | rfl | rfl | rfl <;> rfl
  have hc2 : (c != 0) = true := by simp [bne, hc]
  clear hce hrd
  go_enter Try.func29, Try.ntmps29
  go_upto_region 1 with fail
  rw [← HW1.out]
  clear HW1
  go_wp2_with fail
  refine (G4.out w1).mono ?_
  rintro e w2 ⟨rfl, f⟩
  have F2 := Lib.hid (Gr.trans F1.out f)
  have zw2 := f.size
  have B2 := Lib.hid (show w2.heap[W.heap.size]? = some (.cells #[.bool false, .slice none 0 0, .int .i64 0, .int .i64 0] 71 (0, 0)) by rw [f.block _ (by omega) (fun h => h)]; exact B1.out)
  clear f B1 F1
  go_wp2_with fail
  refine (G6.out w2).mono ?_
  rintro e w3 ⟨rfl, f⟩
  have F3 := Lib.hid (Gr.trans F2.out f)
  have zw3 := f.size
  have B3 := Lib.hid (show w3.heap[W.heap.size]? = some (.cells #[.bool false, .slice none 0 0, .int .i64 0, .int .i64 0] 71 (0, 0)) by rw [f.block _ (by omega) (fun h => h)]; exact B2.out)
  clear f B2 F2
  go_wp2_with fail
  refine (G8.out w3).mono ?_
  rintro e w4 ⟨rfl, f⟩
  have F4 := Lib.hid (Gr.trans F3.out f)
  have zw4 := f.size
  have B4 := Lib.hid (show w4.heap[W.heap.size]? = some (.cells #[.bool false, .slice none 0 0, .int .i64 0, .int .i64 0] 71 (0, 0)) by rw [f.block _ (by omega) (fun h => h)]; exact B3.out)
  clear f B3 F3
  go_wp2_with fail
  refine (CR.out w4).mono ?_
  rintro e w5 ⟨f5, h5⟩
  have F5 := Lib.hid (Gr.trans F4.out f5)
  have zw5 := f5.size
  have B5 := Lib.hid (show w5.heap[W.heap.size]? = some (.cells #[.bool false, .slice none 0 0, .int .i64 0, .int .i64 0] 71 (0, 0)) by rw [f5.block _ (by omega) (fun h => h)]; exact B4.out)
  clear f5 F4 B4 CR
  simp only at h5
  subst h5
  have t0 : w5.cell? ⟨W.heap.size, 0, none⟩ = some (.bool false) := by rw [Lib.cell_of_heap B5.out]; rfl
  have y0 : w5.frozen? ⟨W.heap.size, 0, none⟩ = false := Lib.frozen_of_heap B5.out 0
  have t1 : w5.cell? ⟨W.heap.size, 1, none⟩ = some (.slice none 0 0) := by rw [Lib.cell_of_heap B5.out]; rfl
  have y1 : w5.frozen? ⟨W.heap.size, 1, none⟩ = false := Lib.frozen_of_heap B5.out 1
  have t2 : w5.cell? ⟨W.heap.size, 2, none⟩ = some (.int .i64 0) := by rw [Lib.cell_of_heap B5.out]; rfl
  have y2 : w5.frozen? ⟨W.heap.size, 2, none⟩ = false := Lib.frozen_of_heap B5.out 2
  have t3 : w5.cell? ⟨W.heap.size, 3, none⟩ = some (.int .i64 0) := by rw [Lib.cell_of_heap B5.out]; rfl
  have y3 : w5.frozen? ⟨W.heap.size, 3, none⟩ = false := Lib.frozen_of_heap B5.out 3
  go_wp2_with fail
  refine bodyPost_ret (v := .tuple #[.agg #[.bool false, .slice none 0 0, .int .i64 0, .int .i64 0], .int .i64 1, .int .i64 0]) (by simp [results, Try.results29, go_sem, t0, t1, t2, t3]) rfl ⟨?_, rfl⟩
  exact gr_of_new ((new_of_gr F5.out).trans (fr_four _ _ _ _ _ _) (fun k h => .inl (by omega)))

set_option maxHeartbeats 4000000 in
set_option maxRecDepth 100000 in
theorem qRef_F1 (s : List UInt8) (W : World) (hs : s.length ≤ 100000) (l : List Lbl) (k : Nat) (h12 : ¬ s.length < 12) (hr : bt s 2 < 128) (ho : bt s 2 / 8 % 16 = 0) (q4 : numAt s 4 = 1) (q6 : numAt s 6 = 0) (q8 : numAt s 8 = 0) (hrd : rd s 12 12 [] = .ok l k) (h4 : s.length < k + 4) : Calls Try.prog 29 #[.string ⟨s.toArray⟩] W (RQEnd (none, 1, 0) W) := by
  have zs := mk_size s
  obtain ⟨w1, hw1⟩ : ∃ w1, w1 = W.alloc (.cells #[.bool false, .slice none 0 0, .int .i64 0, .int .i64 0] 71) := ⟨_, rfl⟩
  have f1 : Gr W w1 := by rw [hw1]; exact (Fr.refl _ _).alloc _
  have b1 : w1.heap[W.heap.size]? = some (.cells #[.bool false, .slice none 0 0, .int .i64 0, .int .i64 0] 71 (0, 0)) := by rw [hw1, heap_alloc_if, if_pos rfl]
  have s1 : W.heap.size < w1.heap.size := by rw [hw1]; simp
  have HW1 := Lib.hid hw1
  have F1 := Lib.hid f1
  have B1 := Lib.hid b1
  clear hw1 f1 b1
  obtain ⟨b, hb⟩ : ∃ b, b = bt s 2 := ⟨_, rfl⟩
  have hb256 : b < 256 := by rw [hb]; exact bt_lt _ _
  have i2 : ∀ w, (Instr.index 9 (.string ⟨s.toArray⟩) (.int .i64 2)).run Try.prog w = .ok (.int .u8 b) w := fun w => index_bt s 2 (by omega) b hb w
  have hr : b < 128 := by omega
  have ho1 : b / 8 % 16 = 0 := by rw [hb]; exact ho
  have ho2 : (((b : Int) / 8 % 16) == 0) = true := by simp; omega
  have ho3 : (((b : Int) / 8 % 16) != 0) = false := by simp; omega
  clear ho ho1 hb
  have G4 := Lib.hid (fun w => get2_any s 4 4 rfl w (by omega) hs)
  have G6 := Lib.hid (fun w => get2_any s 6 6 rfl w (by omega) hs)
  have G8 := Lib.hid (fun w => get2_any s 8 8 rfl w (by omega) hs)
  rw [q4] at G4
  rw [q6] at G6
  rw [q8] at G8
  clear q4 q6 q8
  have CR := Lib.hid (fun w => refRead21_any s 12 (by omega) hs w)
  obtain ⟨-, hk12, hks⟩ := rd_ok hrd mayL_nil
  rw [hrd] at CR
  clear hrd
  have h4i : (s.length : Int) - (k : Int) < 4 := by omega
  go_enter Try.func29, Try.ntmps29
  go_upto_region 1 with fail
  rw [← HW1.out]
  clear HW1
  go_wp2_with fail
  refine (G4.out w1).mono ?_
  rintro e w2 ⟨rfl, f⟩
  have F2 := Lib.hid (Gr.trans F1.out f)
  have zw2 := f.size
  have B2 := Lib.hid (show w2.heap[W.heap.size]? = some (.cells #[.bool false, .slice none 0 0, .int .i64 0, .int .i64 0] 71 (0, 0)) by rw [f.block _ (by omega) (fun h => h)]; exact B1.out)
  clear f B1 F1
  go_wp2_with fail
  refine (G6.out w2).mono ?_
  rintro e w3 ⟨rfl, f⟩
  have F3 := Lib.hid (Gr.trans F2.out f)
  have zw3 := f.size
  have B3 := Lib.hid (show w3.heap[W.heap.size]? = some (.cells #[.bool false, .slice none 0 0, .int .i64 0, .int .i64 0] 71 (0, 0)) by rw [f.block _ (by omega) (fun h => h)]; exact B2.out)
  clear f B2 F2
  go_wp2_with fail
  refine (G8.out w3).mono ?_
  rintro e w4 ⟨rfl, f⟩
  have F4 := Lib.hid (Gr.trans F3.out f)
  have zw4 := f.size
  have B4 := Lib.hid (show w4.heap[W.heap.size]? = some (.cells #[.bool false, .slice none 0 0, .int .i64 0, .int .i64 0] 71 (0, 0)) by rw [f.block _ (by omega) (fun h => h)]; exact B3.out)
  clear f B3 F3
  go_wp2_with fail
  refine (CR.out w4).mono ?_
  rintro e w5 ⟨f5, h5⟩
  have F5 := Lib.hid (Gr.trans F4.out f5)
  have zw5 := f5.size
  have B5 := Lib.hid (show w5.heap[W.heap.size]? = some (.cells #[.bool false, .slice none 0 0, .int .i64 0, .int .i64 0] 71 (0, 0)) by rw [f5.block _ (by omega) (fun h => h)]; exact B4.out)
  clear f5 F4 B4 CR
  obtain ⟨a, cap, rfl, -⟩ := h5
  have t0 : w5.cell? ⟨W.heap.size, 0, none⟩ = some (.bool false) := by rw [Lib.cell_of_heap B5.out]; rfl
  have y0 : w5.frozen? ⟨W.heap.size, 0, none⟩ = false := Lib.frozen_of_heap B5.out 0
  have t1 : w5.cell? ⟨W.heap.size, 1, none⟩ = some (.slice none 0 0) := by rw [Lib.cell_of_heap B5.out]; rfl
  have y1 : w5.frozen? ⟨W.heap.size, 1, none⟩ = false := Lib.frozen_of_heap B5.out 1
  have t2 : w5.cell? ⟨W.heap.size, 2, none⟩ = some (.int .i64 0) := by rw [Lib.cell_of_heap B5.out]; rfl
  have y2 : w5.frozen? ⟨W.heap.size, 2, none⟩ = false := Lib.frozen_of_heap B5.out 2
  have t3 : w5.cell? ⟨W.heap.size, 3, none⟩ = some (.int .i64 0) := by rw [Lib.cell_of_heap B5.out]; rfl
  have y3 : w5.frozen? ⟨W.heap.size, 3, none⟩ = false := Lib.frozen_of_heap B5.out 3
  go_wp2_with fail
  refine bodyPost_ret (v := .tuple #[.agg #[.bool false, .slice none 0 0, .int .i64 0, .int .i64 0], .int .i64 1, .int .i64 0]) (by simp [results, Try.results29, go_sem, t0, t1, t2, t3]) rfl ⟨?_, rfl⟩
  exact gr_of_new ((new_of_gr F5.out).trans (fr_four _ _ _ _ _ _) (fun k h => .inl (by omega)))

set_option maxHeartbeats 4000000 in
set_option maxRecDepth 100000 in
theorem qRef_F2 (s : List UInt8) (W : World) (hs : s.length ≤ 100000) (l : List Lbl) (k : Nat) (h12 : ¬ s.length < 12) (hr : bt s 2 < 128) (ho : bt s 2 / 8 % 16 = 0) (q4 : numAt s 4 = 1) (q6 : numAt s 6 = 0) (q8 : numAt s 8 = 0) (hrd : rd s 12 12 [] = .ok l k) (h4 : k + 4 < s.length) (q10 : numAt s 10 = 0) : Calls Try.prog 29 #[.string ⟨s.toArray⟩] W (RQEnd (none, 1, 0) W) := by
  have zs := mk_size s
  obtain ⟨w1, hw1⟩ : ∃ w1, w1 = W.alloc (.cells #[.bool false, .slice none 0 0, .int .i64 0, .int .i64 0] 71) := ⟨_, rfl⟩
  have f1 : Gr W w1 := by rw [hw1]; exact (Fr.refl _ _).alloc _
  have b1 : w1.heap[W.heap.size]? = some (.cells #[.bool false, .slice none 0 0, .int .i64 0, .int .i64 0] 71 (0, 0)) := by rw [hw1, heap_alloc_if, if_pos rfl]
  have s1 : W.heap.size < w1.heap.size := by rw [hw1]; simp
  have HW1 := Lib.hid hw1
  have F1 := Lib.hid f1
  have B1 := Lib.hid b1
  clear hw1 f1 b1
  obtain ⟨b, hb⟩ : ∃ b, b = bt s 2 := ⟨_, rfl⟩
  have hb256 : b < 256 := by rw [hb]; exact bt_lt _ _
  have i2 : ∀ w, (Instr.index 9 (.string ⟨s.toArray⟩) (.int .i64 2)).run Try.prog w = .ok (.int .u8 b) w := fun w => index_bt s 2 (by omega) b hb w
  have hr : b < 128 := by omega
  have ho1 : b / 8 % 16 = 0 := by rw [hb]; exact ho
  have ho2 : (((b : Int) / 8 % 16) == 0) = true := by simp; omega
  have ho3 : (((b : Int) / 8 % 16) != 0) = false := by simp; omega
  clear ho ho1 hb
  have G4 := Lib.hid (fun w => get2_any s 4 4 rfl w (by omega) hs)
  have G6 := Lib.hid (fun w => get2_any s 6 6 rfl w (by omega) hs)
  have G8 := Lib.hid (fun w => get2_any s 8 8 rfl w (by omega) hs)
  rw [q4] at G4
  rw [q6] at G6
  rw [q8] at G8
  clear q4 q6 q8
  have CR := Lib.hid (fun w => refRead21_any s 12 (by omega) hs w)
  obtain ⟨-, hk12, hks⟩ := rd_ok hrd mayL_nil
  rw [hrd] at CR
  clear hrd
  have G10 := Lib.hid (fun w => get2_any s 10 10 rfl w (by omega) hs)
  rw [q10] at G10
  clear q10
  have h4i : 4 < (s.length : Int) - (k : Int) := by omega
  go_enter Try.func29, Try.ntmps29
  go_upto_region 1 with fail
  rw [← HW1.out]
  clear HW1
  go_wp2_with fail
  refine (G4.out w1).mono ?_
  rintro e w2 ⟨rfl, f⟩
  have F2 := Lib.hid (Gr.trans F1.out f)
  have zw2 := f.size
  have B2 := Lib.hid (show w2.heap[W.heap.size]? = some (.cells #[.bool false, .slice none 0 0, .int .i64 0, .int .i64 0] 71 (0, 0)) by rw [f.block _ (by omega) (fun h => h)]; exact B1.out)
  clear f B1 F1
  go_wp2_with fail
  refine (G6.out w2).mono ?_
  rintro e w3 ⟨rfl, f⟩
  have F3 := Lib.hid (Gr.trans F2.out f)
  have zw3 := f.size
  have B3 := Lib.hid (show w3.heap[W.heap.size]? = some (.cells #[.bool false, .slice none 0 0, .int .i64 0, .int .i64 0] 71 (0, 0)) by rw [f.block _ (by omega) (fun h => h)]; exact B2.out)
  clear f B2 F2
  go_wp2_with fail
  refine (G8.out w3).mono ?_
  rintro e w4 ⟨rfl, f⟩
  have F4 := Lib.hid (Gr.trans F3.out f)
  have zw4 := f.size
  have B4 := Lib.hid (show w4.heap[W.heap.size]? = some (.cells #[.bool false, .slice none 0 0, .int .i64 0, .int .i64 0] 71 (0, 0)) by rw [f.block _ (by omega) (fun h => h)]; exact B3.out)
  clear f B3 F3
  go_wp2_with fail
  refine (CR.out w4).mono ?_
  rintro e w5 ⟨f5, h5⟩
  have F5 := Lib.hid (Gr.trans F4.out f5)
  have zw5 := f5.size
  have B5 := Lib.hid (show w5.heap[W.heap.size]? = some (.cells #[.bool false, .slice none 0 0, .int .i64 0, .int .i64 0] 71 (0, 0)) by rw [f5.block _ (by omega) (fun h => h)]; exact B4.out)
  clear f5 F4 B4 CR
  obtain ⟨a, cap, rfl, -⟩ := h5
  go_wp2_with fail
  refine (G10.out w5).mono ?_
  rintro e w6 ⟨rfl, f⟩
  have f' := f
  have F6 := Lib.hid (Gr.trans F5.out f)
  have zw6 := f.size
  have B6 := Lib.hid (show w6.heap[W.heap.size]? = some (.cells #[.bool false, .slice none 0 0, .int .i64 0, .int .i64 0] 71 (0, 0)) by rw [f.block _ (by omega) (fun h => h)]; exact B5.out)
  clear f B5 F5
  have t0 : w6.cell? ⟨W.heap.size, 0, none⟩ = some (.bool false) := by rw [Lib.cell_of_heap B6.out]; rfl
  have y0 : w6.frozen? ⟨W.heap.size, 0, none⟩ = false := Lib.frozen_of_heap B6.out 0
  have t1 : w6.cell? ⟨W.heap.size, 1, none⟩ = some (.slice none 0 0) := by rw [Lib.cell_of_heap B6.out]; rfl
  have y1 : w6.frozen? ⟨W.heap.size, 1, none⟩ = false := Lib.frozen_of_heap B6.out 1
  have t2 : w6.cell? ⟨W.heap.size, 2, none⟩ = some (.int .i64 0) := by rw [Lib.cell_of_heap B6.out]; rfl
  have y2 : w6.frozen? ⟨W.heap.size, 2, none⟩ = false := Lib.frozen_of_heap B6.out 2
  have t3 : w6.cell? ⟨W.heap.size, 3, none⟩ = some (.int .i64 0) := by rw [Lib.cell_of_heap B6.out]; rfl
  have y3 : w6.frozen? ⟨W.heap.size, 3, none⟩ = false := Lib.frozen_of_heap B6.out 3
  go_wp2_with fail
  refine bodyPost_ret (v := .tuple #[.agg #[.bool false, .slice none 0 0, .int .i64 0, .int .i64 0], .int .i64 1, .int .i64 0]) (by simp [results, Try.results29, go_sem, t0, t1, t2, t3]) rfl ⟨?_, rfl⟩
  exact gr_of_new ((new_of_gr F6.out).trans (fr_four _ _ _ _ _ _) (fun k h => .inl (by omega)))

set_option maxHeartbeats 4000000 in
set_option maxRecDepth 100000 in
theorem qRef_G1 (s : List UInt8) (W : World) (hs : s.length ≤ 100000) (l : List Lbl) (k : Nat) (h12 : ¬ s.length < 12) (hr : bt s 2 < 128) (ho : bt s 2 / 8 % 16 = 0) (q4 : numAt s 4 = 1) (q6 : numAt s 6 = 0) (q8 : numAt s 8 = 0) (hrd : rd s 12 12 [] = .ok l k) (h4 : s.length = k + 4) : Calls Try.prog 29 #[.string ⟨s.toArray⟩] W (RQEnd (some (l, numAt s k, numAt s (k + 2)), if (numAt s k = 1 ∨ numAt s k = 33) ∧ numAt s (k + 2) = 1 then 0 else 4, 0) W) := by
  have zs := mk_size s
  obtain ⟨w1, hw1⟩ : ∃ w1, w1 = W.alloc (.cells #[.bool false, .slice none 0 0, .int .i64 0, .int .i64 0] 71) := ⟨_, rfl⟩
  have f1 : Gr W w1 := by rw [hw1]; exact (Fr.refl _ _).alloc _
  have b1 : w1.heap[W.heap.size]? = some (.cells #[.bool false, .slice none 0 0, .int .i64 0, .int .i64 0] 71 (0, 0)) := by rw [hw1, heap_alloc_if, if_pos rfl]
  have s1 : W.heap.size < w1.heap.size := by rw [hw1]; simp
  have HW1 := Lib.hid hw1
  have F1 := Lib.hid f1
  have B1 := Lib.hid b1
  clear hw1 f1 b1
  have hkk : k + 4 ≤ s.length := by omega
  have GA := Lib.hid (fun w => get2_any s k k rfl w (by omega) hs)
  have GB := Lib.hid (fun w => get2_any s (k + 2) ((k : Int) + 2) (by omega) w (by omega) hs)
  generalize hcd : (if (numAt s k = 1 ∨ numAt s k = 33) ∧ numAt s (k + 2) = 1 then (0 : Int) else 4) = code
  have r1 := numAt_range s k
  have r2 := numAt_range s (k + 2)
  generalize numAt s k = tt at *
  generalize numAt s (k + 2) = cc at *
  have HCD := Lib.hid hcd
  clear hcd
  obtain ⟨b, hb⟩ : ∃ b, b = bt s 2 := ⟨_, rfl⟩
  have hb256 : b < 256 := by rw [hb]; exact bt_lt _ _
  have i2 : ∀ w, (Instr.index 9 (.string ⟨s.toArray⟩) (.int .i64 2)).run Try.prog w = .ok (.int .u8 b) w := fun w => index_bt s 2 (by omega) b hb w
  have hr : b < 128 := by omega
  have ho1 : b / 8 % 16 = 0 := by rw [hb]; exact ho
  have ho2 : (((b : Int) / 8 % 16) == 0) = true := by simp; omega
  have ho3 : (((b : Int) / 8 % 16) != 0) = false := by simp; omega
  clear ho ho1 hb
  have G4 := Lib.hid (fun w => get2_any s 4 4 rfl w (by omega) hs)
  have G6 := Lib.hid (fun w => get2_any s 6 6 rfl w (by omega) hs)
  have G8 := Lib.hid (fun w => get2_any s 8 8 rfl w (by omega) hs)
  rw [q4] at G4
  rw [q6] at G6
  rw [q8] at G8
  clear q4 q6 q8
  have CR := Lib.hid (fun w => refRead21_any s 12 (by omega) hs w)
  obtain ⟨-, hk12, hks⟩ := rd_ok hrd mayL_nil
  rw [hrd] at CR
  clear hrd
  have h4i : (s.length : Int) - (k : Int) = 4 := by omega
  have h4j : ¬ (4 < (s.length : Int) - (k : Int)) := by omega
  have h4k : ¬ ((s.length : Int) - (k : Int) < 4) := by omega
  clear h4i
  go_enter Try.func29, Try.ntmps29
  go_upto_region 1 with fail
  rw [← HW1.out]
  clear HW1
  go_wp2_with fail
  refine (G4.out w1).mono ?_
  rintro e w2 ⟨rfl, f⟩
  have F2 := Lib.hid (Gr.trans F1.out f)
  have zw2 := f.size
  have B2 := Lib.hid (show w2.heap[W.heap.size]? = some (.cells #[.bool false, .slice none 0 0, .int .i64 0, .int .i64 0] 71 (0, 0)) by rw [f.block _ (by omega) (fun h => h)]; exact B1.out)
  clear f B1 F1
  go_wp2_with fail
  refine (G6.out w2).mono ?_
  rintro e w3 ⟨rfl, f⟩
  have F3 := Lib.hid (Gr.trans F2.out f)
  have zw3 := f.size
  have B3 := Lib.hid (show w3.heap[W.heap.size]? = some (.cells #[.bool false, .slice none 0 0, .int .i64 0, .int .i64 0] 71 (0, 0)) by rw [f.block _ (by omega) (fun h => h)]; exact B2.out)
  clear f B2 F2
  go_wp2_with fail
  refine (G8.out w3).mono ?_
  rintro e w4 ⟨rfl, f⟩
  have F4 := Lib.hid (Gr.trans F3.out f)
  have zw4 := f.size
  have B4 := Lib.hid (show w4.heap[W.heap.size]? = some (.cells #[.bool false, .slice none 0 0, .int .i64 0, .int .i64 0] 71 (0, 0)) by rw [f.block _ (by omega) (fun h => h)]; exact B3.out)
  clear f B3 F3
  go_wp2_with fail
  refine (CR.out w4).mono ?_
  rintro e w5 ⟨f5, h5⟩
  have F5 := Lib.hid (Gr.trans F4.out f5)
  have zw5 := f5.size
  have B5 := Lib.hid (show w5.heap[W.heap.size]? = some (.cells #[.bool false, .slice none 0 0, .int .i64 0, .int .i64 0] 71 (0, 0)) by rw [f5.block _ (by omega) (fun h => h)]; exact B4.out)
  clear f5 F4 B4 CR
  obtain ⟨a, cap, rfl, s5⟩ := h5
  have S5 := Lib.hid s5
  clear s5
  go_upto_region 12 with fail
  go_wp2_with fail
  refine (GA.out w5).mono ?_
  rintro e w7 ⟨rfl, f7⟩
  go_wp2_with fail
  refine (GB.out w7).mono ?_
  rintro e w8 ⟨rfl, f8⟩
  have f78 := Gr.trans f7 f8
  have zw8 := f78.size
  have F8 := Lib.hid (Gr.trans F5.out f78)
  have B8 := Lib.hid (show w8.heap[W.heap.size]? = some (.cells #[.bool false, .slice none 0 0, .int .i64 0, .int .i64 0] 71 (0, 0)) by rw [f78.block _ (by omega) (fun h => h)]; exact B5.out)
  have S8 := Lib.hid (S5.out.keep f78 (fun _ _ h => h))
  clear f7 f8 f78 F5 B5 S5 GA GB
  obtain ⟨w9, hw9⟩ : ∃ w9, w9 = w8.alloc (.cells #[.bool true, .slice a l.length cap, .int .i64 tt, .int .i64 cc] 71) := ⟨_, rfl⟩
  have f9 : Gr w8 w9 := by rw [hw9]; exact (Fr.refl _ _).alloc _
  have F9 := Lib.hid (Gr.trans F8.out f9)
  have s9 : W.heap.size < w8.heap.size := by have := F8.out.size; have h := lt_of_cell (w := w8) (p := ⟨W.heap.size, 0, none⟩) (v := .bool false) (by rw [Lib.cell_of_heap B8.out]; rfl); exact h
  have B9 := Lib.hid (show w9.heap[W.heap.size]? = some (.cells #[.bool false, .slice none 0 0, .int .i64 0, .int .i64 0] 71 (0, 0)) by rw [f9.block _ s9 (fun h => h)]; exact B8.out)
  have Q9 := Lib.hid (show w9.heap[w8.heap.size]? = some (.cells #[.bool true, .slice a l.length cap, .int .i64 tt, .int .i64 cc] 71 (0, 0)) by rw [hw9, heap_alloc_if, if_pos rfl])
  have S9 := Lib.hid (S8.out.keep f9 (fun _ _ h => h))
  have HW9 := Lib.hid hw9
  clear f9 hw9 F8 B8 S8
  go_upto_region 13 with fail
  rw [← HW9.out]
  clear HW9
  have q0 : w9.cell? ⟨w8.heap.size, 0, none⟩ = some (.bool true) := by rw [Lib.cell_of_heap Q9.out]; rfl
  have q1 : w9.cell? ⟨w8.heap.size, 1, none⟩ = some (.slice a l.length cap) := by rw [Lib.cell_of_heap Q9.out]; rfl
  have q2 : w9.cell? ⟨w8.heap.size, 2, none⟩ = some (.int .i64 tt) := by rw [Lib.cell_of_heap Q9.out]; rfl
  have q3 : w9.cell? ⟨w8.heap.size, 3, none⟩ = some (.int .i64 cc) := by rw [Lib.cell_of_heap Q9.out]; rfl
  go_cut [86] from 74 to 87 (fun cv wx => ∃ b : Bool, cv = .bool b ∧ code = (if b then 4 else 0) ∧ w9 = wx)
  case first =>
    by_cases c1 : cc = 1
    · have e1 : (cc == 1) = true := by simpa using c1
      have e1n : (cc != 1) = false := by simp [bne, e1]
      by_cases t1 : tt = 1
      · have e2 : (tt == 1) = true := by simpa using t1
        have e2n : (tt != 1) = false := by simp [bne, e2]
        have HC : Hid (code = 0) := Lib.hid (by rw [← HCD.out]; exact if_pos ⟨.inl t1, c1⟩)
        clear c1 t1
        go_wp2_with fail
        go_meet
        exact ⟨false, rfl, HC.out, rfl⟩
      · have e2 : (tt == 1) = false := by simpa using t1
        have e2n : (tt != 1) = true := by simp [bne, e2]
        by_cases t33 : tt = 33
        · have e3 : (tt == 33) = true := by simpa using t33
          have e3n : (tt != 33) = false := by simp [bne, e3]
          have HC : Hid (code = 0) := Lib.hid (by rw [← HCD.out]; exact if_pos ⟨.inr t33, c1⟩)
          clear c1 t1 t33
          go_wp2_with fail
          go_meet
          exact ⟨false, rfl, HC.out, rfl⟩
        · have e3 : (tt == 33) = false := by simpa using t33
          have e3n : (tt != 33) = true := by simp [bne, e3]
          have HC : Hid (code = 4) := Lib.hid (by rw [← HCD.out]; exact if_neg (fun h => by rcases h.1 with h | h; exact t1 h; exact t33 h))
          clear c1 t1 t33
          go_wp2_with fail
          go_meet
          exact ⟨true, rfl, HC.out, rfl⟩
    · have e1 : (cc == 1) = false := by simpa using c1
      have e1n : (cc != 1) = true := by simp [bne, e1]
      have HC : Hid (code = 4) := Lib.hid (by rw [← HCD.out]; exact if_neg (fun h => c1 h.2))
      clear c1
      by_cases t1 : tt = 1
      · have e2 : (tt == 1) = true := by simpa using t1
        have e2n : (tt != 1) = false := by simp [bne, e2]
        clear t1
        go_wp2_with fail
        go_meet
        exact ⟨true, rfl, HC.out, rfl⟩
      · have e2 : (tt == 1) = false := by simpa using t1
        have e2n : (tt != 1) = true := by simp [bne, e2]
        clear t1
        by_cases t33 : tt = 33
        · have e3 : (tt == 33) = true := by simpa using t33
          have e3n : (tt != 33) = false := by simp [bne, e3]
          clear t33
          go_wp2_with fail
          go_meet
          exact ⟨true, rfl, HC.out, rfl⟩
        · have e3 : (tt == 33) = false := by simpa using t33
          have e3n : (tt != 33) = true := by simp [bne, e3]
          clear t33
          go_wp2_with fail
          go_meet
          exact ⟨true, rfl, HC.out, rfl⟩
  case rest =>
    obtain ⟨b, rfl, hcode, rfl⟩ := hcut
    have HC := Lib.hid hcode
    clear hcode
    have t0 : w9.cell? ⟨W.heap.size, 0, none⟩ = some (.bool false) := by rw [Lib.cell_of_heap B9.out]; rfl
    have y0 : w9.frozen? ⟨W.heap.size, 0, none⟩ = false := Lib.frozen_of_heap B9.out 0
    have t1 : w9.cell? ⟨W.heap.size, 1, none⟩ = some (.slice none 0 0) := by rw [Lib.cell_of_heap B9.out]; rfl
    have y1 : w9.frozen? ⟨W.heap.size, 1, none⟩ = false := Lib.frozen_of_heap B9.out 1
    have t2 : w9.cell? ⟨W.heap.size, 2, none⟩ = some (.int .i64 0) := by rw [Lib.cell_of_heap B9.out]; rfl
    have y2 : w9.frozen? ⟨W.heap.size, 2, none⟩ = false := Lib.frozen_of_heap B9.out 2
    have t3 : w9.cell? ⟨W.heap.size, 3, none⟩ = some (.int .i64 0) := by rw [Lib.cell_of_heap B9.out]; rfl
    have y3 : w9.frozen? ⟨W.heap.size, 3, none⟩ = false := Lib.frozen_of_heap B9.out 3
    have f10 := fr_four w9 W.heap.size (.bool true) (.slice a l.length cap) (.int .i64 tt) (.int .i64 cc)
    have FA := Lib.hid (gr_of_new ((new_of_gr F9.out).trans f10 (fun k h => .inl (by omega))))
    have SA : Hid (SlA ((((w9.setCell ⟨W.heap.size, 0, none⟩ (.bool true)).setCell ⟨W.heap.size, 1, none⟩ (.slice a l.length cap)).setCell ⟨W.heap.size, 2, none⟩ (.int .i64 tt)).setCell ⟨W.heap.size, 3, none⟩ (.int .i64 cc)) a l.length cap (strVs l)) := Lib.hid (sla_str S9.out f10 B9.out (by intro i x; match i with | 0 => simp | 1 => simp | 2 => simp | 3 => simp | i + 4 => simp))
    clear f10
    cases b
    · have HC2 : Hid (code = 0) := Lib.hid HC.out
      go_wp2_with fail
      refine bodyPost_ret (v := .tuple #[.agg #[.bool true, .slice a l.length cap, .int .i64 tt, .int .i64 cc], .int .i64 0, .int .i64 0]) (by simp [results, Try.results29, go_sem, t0, t1, t2, t3]) rfl ⟨FA.out, a, cap, SA.out, by rw [HC2.out]⟩
    · have HC2 : Hid (code = 4) := Lib.hid HC.out
      go_wp2_with fail
      refine bodyPost_ret (v := .tuple #[.agg #[.bool true, .slice a l.length cap, .int .i64 tt, .int .i64 cc], .int .i64 4, .int .i64 0]) (by simp [results, Try.results29, go_sem, t0, t1, t2, t3]) rfl ⟨FA.out, a, cap, SA.out, by rw [HC2.out]⟩

set_option maxHeartbeats 4000000 in
set_option maxRecDepth 100000 in
theorem qRef_G2 (s : List UInt8) (W : World) (hs : s.length ≤ 100000) (l : List Lbl) (k : Nat) (h12 : ¬ s.length < 12) (hr : bt s 2 < 128) (ho : bt s 2 / 8 % 16 = 0) (q4 : numAt s 4 = 1) (q6 : numAt s 6 = 0) (q8 : numAt s 8 = 0) (hrd : rd s 12 12 [] = .ok l k) (h4 : k + 4 < s.length) (q10 : numAt s 10 ≠ 0) : Calls Try.prog 29 #[.string ⟨s.toArray⟩] W (RQEnd (some (l, numAt s k, numAt s (k + 2)), if (numAt s k = 1 ∨ numAt s k = 33) ∧ numAt s (k + 2) = 1 then 0 else 4, 0) W) := by
  have zs := mk_size s
  obtain ⟨w1, hw1⟩ : ∃ w1, w1 = W.alloc (.cells #[.bool false, .slice none 0 0, .int .i64 0, .int .i64 0] 71) := ⟨_, rfl⟩
  have f1 : Gr W w1 := by rw [hw1]; exact (Fr.refl _ _).alloc _
  have b1 : w1.heap[W.heap.size]? = some (.cells #[.bool false, .slice none 0 0, .int .i64 0, .int .i64 0] 71 (0, 0)) := by rw [hw1, heap_alloc_if, if_pos rfl]
  have s1 : W.heap.size < w1.heap.size := by rw [hw1]; simp
  have HW1 := Lib.hid hw1
  have F1 := Lib.hid f1
  have B1 := Lib.hid b1
  clear hw1 f1 b1
  have hkk : k + 4 ≤ s.length := by omega
  have GA := Lib.hid (fun w => get2_any s k k rfl w (by omega) hs)
  have GB := Lib.hid (fun w => get2_any s (k + 2) ((k : Int) + 2) (by omega) w (by omega) hs)
  generalize hcd : (if (numAt s k = 1 ∨ numAt s k = 33) ∧ numAt s (k + 2) = 1 then (0 : Int) else 4) = code
  have r1 := numAt_range s k
  have r2 := numAt_range s (k + 2)
  generalize numAt s k = tt at *
  generalize numAt s (k + 2) = cc at *
  have HCD := Lib.hid hcd
  clear hcd
  obtain ⟨b, hb⟩ : ∃ b, b = bt s 2 := ⟨_, rfl⟩
  have hb256 : b < 256 := by rw [hb]; exact bt_lt _ _
  have i2 : ∀ w, (Instr.index 9 (.string ⟨s.toArray⟩) (.int .i64 2)).run Try.prog w = .ok (.int .u8 b) w := fun w => index_bt s 2 (by omega) b hb w
  have hr : b < 128 := by omega
  have ho1 : b / 8 % 16 = 0 := by rw [hb]; exact ho
  have ho2 : (((b : Int) / 8 % 16) == 0) = true := by simp; omega
  have ho3 : (((b : Int) / 8 % 16) != 0) = false := by simp; omega
  clear ho ho1 hb
  have G4 := Lib.hid (fun w => get2_any s 4 4 rfl w (by omega) hs)
  have G6 := Lib.hid (fun w => get2_any s 6 6 rfl w (by omega) hs)
  have G8 := Lib.hid (fun w => get2_any s 8 8 rfl w (by omega) hs)
  rw [q4] at G4
  rw [q6] at G6
  rw [q8] at G8
  clear q4 q6 q8
  have CR := Lib.hid (fun w => refRead21_any s 12 (by omega) hs w)
  obtain ⟨-, hk12, hks⟩ := rd_ok hrd mayL_nil
  rw [hrd] at CR
  clear hrd
  have G10 := Lib.hid (fun w => get2_any s 10 10 rfl w (by omega) hs)
  obtain ⟨n10, hn10⟩ : ∃ n, n = numAt s 10 := ⟨_, rfl⟩
  rw [← hn10] at G10
  have e10 : (n10 == 0) = false := by rw [hn10]; simpa using q10
  clear hn10 q10
  have h4i : 4 < (s.length : Int) - (k : Int) := by omega
  go_enter Try.func29, Try.ntmps29
  go_upto_region 1 with fail
  rw [← HW1.out]
  clear HW1
  go_wp2_with fail
  refine (G4.out w1).mono ?_
  rintro e w2 ⟨rfl, f⟩
  have F2 := Lib.hid (Gr.trans F1.out f)
  have zw2 := f.size
  have B2 := Lib.hid (show w2.heap[W.heap.size]? = some (.cells #[.bool false, .slice none 0 0, .int .i64 0, .int .i64 0] 71 (0, 0)) by rw [f.block _ (by omega) (fun h => h)]; exact B1.out)
  clear f B1 F1
  go_wp2_with fail
  refine (G6.out w2).mono ?_
  rintro e w3 ⟨rfl, f⟩
  have F3 := Lib.hid (Gr.trans F2.out f)
  have zw3 := f.size
  have B3 := Lib.hid (show w3.heap[W.heap.size]? = some (.cells #[.bool false, .slice none 0 0, .int .i64 0, .int .i64 0] 71 (0, 0)) by rw [f.block _ (by omega) (fun h => h)]; exact B2.out)
  clear f B2 F2
  go_wp2_with fail
  refine (G8.out w3).mono ?_
  rintro e w4 ⟨rfl, f⟩
  have F4 := Lib.hid (Gr.trans F3.out f)
  have zw4 := f.size
  have B4 := Lib.hid (show w4.heap[W.heap.size]? = some (.cells #[.bool false, .slice none 0 0, .int .i64 0, .int .i64 0] 71 (0, 0)) by rw [f.block _ (by omega) (fun h => h)]; exact B3.out)
  clear f B3 F3
  go_wp2_with fail
  refine (CR.out w4).mono ?_
  rintro e w5 ⟨f5, h5⟩
  have F5 := Lib.hid (Gr.trans F4.out f5)
  have zw5 := f5.size
  have B5 := Lib.hid (show w5.heap[W.heap.size]? = some (.cells #[.bool false, .slice none 0 0, .int .i64 0, .int .i64 0] 71 (0, 0)) by rw [f5.block _ (by omega) (fun h => h)]; exact B4.out)
  clear f5 F4 B4 CR
  obtain ⟨a, cap, rfl, s5⟩ := h5
  have S5 := Lib.hid s5
  clear s5
  go_wp2_with fail
  refine (G10.out w5).mono ?_
  rintro e w6 ⟨rfl, f⟩
  have f' := f
  have F6 := Lib.hid (Gr.trans F5.out f)
  have zw6 := f.size
  have B6 := Lib.hid (show w6.heap[W.heap.size]? = some (.cells #[.bool false, .slice none 0 0, .int .i64 0, .int .i64 0] 71 (0, 0)) by rw [f.block _ (by omega) (fun h => h)]; exact B5.out)
  clear f B5 F5
  have S6 := Lib.hid (S5.out.keep (show Gr w5 w6 from f') (fun _ _ h => h))
  go_upto_region 12 with fail
  go_wp2_with fail
  refine (GA.out w6).mono ?_
  rintro e w7 ⟨rfl, f7⟩
  go_wp2_with fail
  refine (GB.out w7).mono ?_
  rintro e w8 ⟨rfl, f8⟩
  have f78 := Gr.trans f7 f8
  have zw8 := f78.size
  have F8 := Lib.hid (Gr.trans F6.out f78)
  have B8 := Lib.hid (show w8.heap[W.heap.size]? = some (.cells #[.bool false, .slice none 0 0, .int .i64 0, .int .i64 0] 71 (0, 0)) by rw [f78.block _ (by omega) (fun h => h)]; exact B6.out)
  have S8 := Lib.hid (S6.out.keep f78 (fun _ _ h => h))
  clear f7 f8 f78 F6 B6 S6 GA GB
  obtain ⟨w9, hw9⟩ : ∃ w9, w9 = w8.alloc (.cells #[.bool true, .slice a l.length cap, .int .i64 tt, .int .i64 cc] 71) := ⟨_, rfl⟩
  have f9 : Gr w8 w9 := by rw [hw9]; exact (Fr.refl _ _).alloc _
  have F9 := Lib.hid (Gr.trans F8.out f9)
  have s9 : W.heap.size < w8.heap.size := by have := F8.out.size; have h := lt_of_cell (w := w8) (p := ⟨W.heap.size, 0, none⟩) (v := .bool false) (by rw [Lib.cell_of_heap B8.out]; rfl); exact h
  have B9 := Lib.hid (show w9.heap[W.heap.size]? = some (.cells #[.bool false, .slice none 0 0, .int .i64 0, .int .i64 0] 71 (0, 0)) by rw [f9.block _ s9 (fun h => h)]; exact B8.out)
  have Q9 := Lib.hid (show w9.heap[w8.heap.size]? = some (.cells #[.bool true, .slice a l.length cap, .int .i64 tt, .int .i64 cc] 71 (0, 0)) by rw [hw9, heap_alloc_if, if_pos rfl])
  have S9 := Lib.hid (S8.out.keep f9 (fun _ _ h => h))
  have HW9 := Lib.hid hw9
  clear f9 hw9 F8 B8 S8
  go_upto_region 13 with fail
  rw [← HW9.out]
  clear HW9
  have q0 : w9.cell? ⟨w8.heap.size, 0, none⟩ = some (.bool true) := by rw [Lib.cell_of_heap Q9.out]; rfl
  have q1 : w9.cell? ⟨w8.heap.size, 1, none⟩ = some (.slice a l.length cap) := by rw [Lib.cell_of_heap Q9.out]; rfl
  have q2 : w9.cell? ⟨w8.heap.size, 2, none⟩ = some (.int .i64 tt) := by rw [Lib.cell_of_heap Q9.out]; rfl
  have q3 : w9.cell? ⟨w8.heap.size, 3, none⟩ = some (.int .i64 cc) := by rw [Lib.cell_of_heap Q9.out]; rfl
  go_cut [86] from 74 to 87 (fun cv wx => ∃ b : Bool, cv = .bool b ∧ code = (if b then 4 else 0) ∧ w9 = wx)
  case first =>
    by_cases c1 : cc = 1
    · have e1 : (cc == 1) = true := by simpa using c1
      have e1n : (cc != 1) = false := by simp [bne, e1]
      by_cases t1 : tt = 1
      · have e2 : (tt == 1) = true := by simpa using t1
        have e2n : (tt != 1) = false := by simp [bne, e2]
        have HC : Hid (code = 0) := Lib.hid (by rw [← HCD.out]; exact if_pos ⟨.inl t1, c1⟩)
        clear c1 t1
        go_wp2_with fail
        go_meet
        exact ⟨false, rfl, HC.out, rfl⟩
      · have e2 : (tt == 1) = false := by simpa using t1
        have e2n : (tt != 1) = true := by simp [bne, e2]
        by_cases t33 : tt = 33
        · have e3 : (tt == 33) = true := by simpa using t33
          have e3n : (tt != 33) = false := by simp [bne, e3]
          have HC : Hid (code = 0) := Lib.hid (by rw [← HCD.out]; exact if_pos ⟨.inr t33, c1⟩)
          clear c1 t1 t33
          go_wp2_with fail
          go_meet
          exact ⟨false, rfl, HC.out, rfl⟩
        · have e3 : (tt == 33) = false := by simpa using t33
          have e3n : (tt != 33) = true := by simp [bne, e3]
          have HC : Hid (code = 4) := Lib.hid (by rw [← HCD.out]; exact if_neg (fun h => by rcases h.1 with h | h; exact t1 h; exact t33 h))
          clear c1 t1 t33
          go_wp2_with fail
          go_meet
          exact ⟨true, rfl, HC.out, rfl⟩
    · have e1 : (cc == 1) = false := by simpa using c1
      have e1n : (cc != 1) = true := by simp [bne, e1]
      have HC : Hid (code = 4) := Lib.hid (by rw [← HCD.out]; exact if_neg (fun h => c1 h.2))
      clear c1
      by_cases t1 : tt = 1
      · have e2 : (tt == 1) = true := by simpa using t1
        have e2n : (tt != 1) = false := by simp [bne, e2]
        clear t1
        go_wp2_with fail
        go_meet
        exact ⟨true, rfl, HC.out, rfl⟩
      · have e2 : (tt == 1) = false := by simpa using t1
        have e2n : (tt != 1) = true := by simp [bne, e2]
        clear t1
        by_cases t33 : tt = 33
        · have e3 : (tt == 33) = true := by simpa using t33
          have e3n : (tt != 33) = false := by simp [bne, e3]
          clear t33
          go_wp2_with fail
          go_meet
          exact ⟨true, rfl, HC.out, rfl⟩
        · have e3 : (tt == 33) = false := by simpa using t33
          have e3n : (tt != 33) = true := by simp [bne, e3]
          clear t33
          go_wp2_with fail
          go_meet
          exact ⟨true, rfl, HC.out, rfl⟩
  case rest =>
    obtain ⟨b, rfl, hcode, rfl⟩ := hcut
    have HC := Lib.hid hcode
    clear hcode
    have t0 : w9.cell? ⟨W.heap.size, 0, none⟩ = some (.bool false) := by rw [Lib.cell_of_heap B9.out]; rfl
    have y0 : w9.frozen? ⟨W.heap.size, 0, none⟩ = false := Lib.frozen_of_heap B9.out 0
    have t1 : w9.cell? ⟨W.heap.size, 1, none⟩ = some (.slice none 0 0) := by rw [Lib.cell_of_heap B9.out]; rfl
    have y1 : w9.frozen? ⟨W.heap.size, 1, none⟩ = false := Lib.frozen_of_heap B9.out 1
    have t2 : w9.cell? ⟨W.heap.size, 2, none⟩ = some (.int .i64 0) := by rw [Lib.cell_of_heap B9.out]; rfl
    have y2 : w9.frozen? ⟨W.heap.size, 2, none⟩ = false := Lib.frozen_of_heap B9.out 2
    have t3 : w9.cell? ⟨W.heap.size, 3, none⟩ = some (.int .i64 0) := by rw [Lib.cell_of_heap B9.out]; rfl
    have y3 : w9.frozen? ⟨W.heap.size, 3, none⟩ = false := Lib.frozen_of_heap B9.out 3
    have f10 := fr_four w9 W.heap.size (.bool true) (.slice a l.length cap) (.int .i64 tt) (.int .i64 cc)
    have FA := Lib.hid (gr_of_new ((new_of_gr F9.out).trans f10 (fun k h => .inl (by omega))))
    have SA : Hid (SlA ((((w9.setCell ⟨W.heap.size, 0, none⟩ (.bool true)).setCell ⟨W.heap.size, 1, none⟩ (.slice a l.length cap)).setCell ⟨W.heap.size, 2, none⟩ (.int .i64 tt)).setCell ⟨W.heap.size, 3, none⟩ (.int .i64 cc)) a l.length cap (strVs l)) := Lib.hid (sla_str S9.out f10 B9.out (by intro i x; match i with | 0 => simp | 1 => simp | 2 => simp | 3 => simp | i + 4 => simp))
    clear f10
    cases b
    · have HC2 : Hid (code = 0) := Lib.hid HC.out
      go_wp2_with fail
      refine bodyPost_ret (v := .tuple #[.agg #[.bool true, .slice a l.length cap, .int .i64 tt, .int .i64 cc], .int .i64 0, .int .i64 0]) (by simp [results, Try.results29, go_sem, t0, t1, t2, t3]) rfl ⟨FA.out, a, cap, SA.out, by rw [HC2.out]⟩
    · have HC2 : Hid (code = 4) := Lib.hid HC.out
      go_wp2_with fail
      refine bodyPost_ret (v := .tuple #[.agg #[.bool true, .slice a l.length cap, .int .i64 tt, .int .i64 cc], .int .i64 4, .int .i64 0]) (by simp [results, Try.results29, go_sem, t0, t1, t2, t3]) rfl ⟨FA.out, a, cap, SA.out, by rw [HC2.out]⟩

theorem refParse23_any (s : List UInt8) (W : World) (hs : s.length ≤ 100000) : Calls Try.prog 29 #[.string ⟨s.toArray⟩] W (RQEnd (qOut s).2 W) := by
  unfold qOut
  by_cases h12 : s.length < 12
  · rw [if_pos h12]; exact qRef_A s W hs h12
  rw [if_neg h12, resp_bt s (by omega), op_bt s (by omega)]
  by_cases hr : 128 ≤ bt s 2
  · rw [if_pos (by simpa using hr)]; exact qRef_B s W hs h12 hr
  rw [if_neg (by simpa using hr)]
  have hr : bt s 2 < 128 := by omega
  by_cases ho : bt s 2 / 8 % 16 = 0
  · rw [if_neg (by omega)]
    unfold qQuest
    have hc0 : (hdRead s).c0 = numAt s 4 := rfl
    have hc1 : (hdRead s).c1 = numAt s 6 := rfl
    have hc2 : (hdRead s).c2 = numAt s 8 := rfl
    have hc3 : (hdRead s).c3 = numAt s 10 := rfl
    rw [hc0, hc1, hc2, hc3]
    by_cases q4 : numAt s 4 = 1
    · by_cases q6 : numAt s 6 = 0
      · by_cases q8 : numAt s 8 = 0
        · rw [if_pos (by rw [q4, q6, q8]; rfl)]
          cases hrd : rd s 12 12 [] with
          | err c => exact qRef_E s W hs c h12 hr ho q4 q6 q8 hrd
          | ok l k =>
            obtain ⟨-, hk12, hks⟩ := rd_ok hrd mayL_nil
            have hdl : (s.drop k).length = s.length - k := by simp
            have n0 : numAt (s.drop k) 0 = numAt s k := by unfold numAt; rw [List.drop_drop]; rfl
            have n2 : numAt (s.drop k) 2 = numAt s (k + 2) := by unfold numAt; rw [List.drop_drop]
            have r10 := numAt_range s 10
            simp only [hdl, n0, n2]
            by_cases h4 : s.length < k + 4
            · rw [if_pos (by omega)]; exact qRef_F1 s W hs l k h12 hr ho q4 q6 q8 hrd h4
            · rw [if_neg (by omega)]
              by_cases h5 : s.length = k + 4
              · rw [if_neg (by omega)]; exact qRef_G1 s W hs l k h12 hr ho q4 q6 q8 hrd h5
              · by_cases q10 : numAt s 10 = 0
                · rw [if_pos (by omega)]; exact qRef_F2 s W hs l k h12 hr ho q4 q6 q8 hrd (by omega) q10
                · rw [if_neg (by omega)]; exact qRef_G2 s W hs l k h12 hr ho q4 q6 q8 hrd (by omega) q10
        · rw [if_neg (by unfold countedB; simp [q8])]; exact qRef_D3 s W hs h12 hr ho q4 q6 q8
      · rw [if_neg (by unfold countedB; simp [q6])]; exact qRef_D2 s W hs h12 hr ho q4 q6
    · rw [if_neg (by unfold countedB; simp [q4])]; exact qRef_D1 s W hs h12 hr ho q4
  · rw [if_pos (by omega)]; exact qRef_C s W hs h12 hr ho
end Go.Proofs.Ytkclgemkeifbaaa
