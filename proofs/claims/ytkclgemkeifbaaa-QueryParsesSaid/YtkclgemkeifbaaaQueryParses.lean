/-
  The walk of QueryParses (printed by gen_qparses.py).
-/
import Derived.Test.YtkclgemkeifbaaaQSpeak
import Derived.Test.YtkclgemkeifbaaaQRef
import Derived.Test.YtkclgemkeifbaaaHeadE
namespace Go.Proofs.Ytkclgemkeifbaaa
open Go.RowKit Go.Proofs

theorem cut_minQ (K : Nat) (c : Int) (hc : c = K) (s : List UInt8) : ∃ m : Nat, m ≤ s.length ∧ m ≤ K ∧ (if c < (s.length : Int) then c else (s.length : Int)) = (m : Int) ∧ min (s.length : Int) c = (m : Int) ∧ m = min s.length K :=
  ⟨min s.length K, by omega, by omega, by subst hc; split <;> omega, by omega, rfl⟩
theorem numAt_u16 (l : List UInt8) (i : Nat) : 0 ≤ numAt l i ∧ numAt l i ≤ 65535 := numAt_range l i
theorem qOut_cases (s : List UInt8) : (∃ er : Int, (er = 2 ∨ er = 8) ∧ qOut s = (hdZero, none, 0, er)) ∨ (¬ s.length < 12 ∧ ((∃ code, qOut s = (hdRead s, none, code, 0)) ∨ ∃ l t c code, mayL l = true ∧ (0 ≤ t ∧ t ≤ 65535) ∧ (0 ≤ c ∧ c ≤ 65535) ∧ qOut s = (hdRead s, some (l, t, c), code, 0))) := by
  unfold qOut
  by_cases h12 : s.length < 12
  · rw [if_pos h12]; exact .inl ⟨2, .inl rfl, rfl⟩
  rw [if_neg h12]
  by_cases hr : (hdRead s).resp = true
  · rw [if_pos hr]; exact .inl ⟨8, .inr rfl, rfl⟩
  rw [if_neg hr]
  refine .inr ⟨h12, ?_⟩
  by_cases ho : (hdRead s).op ≠ 0
  · rw [if_pos ho]; exact .inl ⟨_, rfl⟩
  rw [if_neg ho]
  cases hq : qQuest s with
  | none => exact .inl ⟨_, rfl⟩
  | some y =>
    obtain ⟨l, t, c⟩ := y
    refine .inr ⟨l, t, c, _, ?_, ?_, ?_, rfl⟩
    all_goals
      unfold qQuest at hq
      split at hq
      · split at hq
        · cases hq
        · rename_i m k hk
          split at hq
          · cases hq
          · split at hq
            · cases hq
            · simp only [Option.some.injEq, Prod.mk.injEq] at hq
              obtain ⟨rfl, rfl, rfl⟩ := hq
              first | exact (rd_ok hk mayL_nil).1 | exact numAt_u16 _ _
      · cases hq

set_option maxHeartbeats 4000000 in
set_option maxRecDepth 100000 in
theorem qp_1 (s t : List UInt8) (m : Nat) (W : World) (hm1 : m ≤ s.length) (hite : (if (400 : Int) < (s.length : Int) then (400 : Int) else (s.length : Int)) = (m : Int)) (hx1 : (⟨s.toArray⟩ : ByteArray).extract 0 m = ⟨t.toArray⟩) (htl : t.length ≤ 400) (er : Int) (her : er = 2 ∨ er = 8) (hq : qOut t = (hdZero, none, 0, er)) : Calls Try.prog 7 #[.string ⟨s.toArray⟩] W fun e w' => e = .returned (.bool true) ∧ Gr W w' := by
  have hsz := mk_size s
  have S0 := Lib.hid (fun w => speaks23_any w)
  have C1 := Lib.hid (fun w => qParse_any t w (by omega))
  have C2 := Lib.hid (fun w => refParse23_any t w (by omega))
  rw [hq] at C1 C2
  have heq := fun (w : World) (a0 a1 a2 a3 b0 b1 b2 b3 : Int) => eql_u16x4 w 9997 a0 a1 a2 a3 b0 b1 b2 b3
  have he : (er == 0) = false := by rcases her with rfl | rfl <;> rfl
  have he2 : (er != 0) = true := by simp [bne, he]
  have HH : Hid (hdZero = hdZero) := Lib.hid rfl
  clear hq her
  go_enter Try.func7, Try.ntmps7
  go_wp2_with fail
  refine (S0.out _).mono ?_
  rintro e w1 ⟨rfl, f1⟩
  have F1 := Lib.hid f1
  clear f1 S0
  go_wp2_with fail
  clear hite hx1 hm1 hsz
  refine (C1.out _).mono ?_
  rintro e w2 ⟨f2, rfl⟩
  have F2 := Lib.hid (Gr.trans F1.out f2)
  simp only [qCells, hdZero]
  obtain ⟨w3, hw3⟩ : ∃ w3, w3 = w2.alloc (.cells #[.int .u16 0, .bool false, .int .u8 0, .bool false, .bool false, .bool false, .bool false, .int .u8 0, .int .u8 0, .int .u16 0, .int .u16 0, .int .u16 0, .int .u16 0, .bool false, .slice none 0 0, .int .u16 0, .int .u16 0] 67) := ⟨_, rfl⟩
  have f3 : Gr w2 w3 := by rw [hw3]; exact (Fr.refl _ _).alloc _
  have F3 := Lib.hid (Gr.trans F2.out f3)
  have B3 := Lib.hid (show w3.heap[w2.heap.size]? = some (.cells #[.int .u16 0, .bool false, .int .u8 0, .bool false, .bool false, .bool false, .bool false, .int .u8 0, .int .u8 0, .int .u16 0, .int .u16 0, .int .u16 0, .int .u16 0, .bool false, .slice none 0 0, .int .u16 0, .int .u16 0] 67 (0, 0)) by rw [hw3, heap_alloc_if, if_pos rfl])
  have z3 : w2.heap.size < w3.heap.size := by rw [hw3]; simp
  have HW3 := Lib.hid hw3
  clear f2 f3 hw3 F1 F2 C1
  go_upto_region 5 with fail
  rw [← HW3.out]
  clear HW3
  go_wp2_with fail
  refine (C2.out _).mono ?_
  rintro e w4 ⟨f4, rfl⟩
  have F4 := Lib.hid (Gr.trans F3.out f4)
  have z4 := f4.size
  have B4 := Lib.hid (show w4.heap[w2.heap.size]? = some (.cells #[.int .u16 0, .bool false, .int .u8 0, .bool false, .bool false, .bool false, .bool false, .int .u8 0, .int .u8 0, .int .u16 0, .int .u16 0, .int .u16 0, .int .u16 0, .bool false, .slice none 0 0, .int .u16 0, .int .u16 0] 67 (0, 0)) by rw [f4.block _ z3 (fun h => h)]; exact B3.out)
  obtain ⟨w5, hw5⟩ : ∃ w5, w5 = w4.alloc (.cells #[.bool false, .slice none 0 0, .int .i64 0, .int .i64 0] 71) := ⟨_, rfl⟩
  have f5 : Gr w4 w5 := by rw [hw5]; exact (Fr.refl _ _).alloc _
  have F5 := Lib.hid (Gr.trans F4.out f5)
  have B5 := Lib.hid (show w5.heap[w2.heap.size]? = some (.cells #[.int .u16 0, .bool false, .int .u8 0, .bool false, .bool false, .bool false, .bool false, .int .u8 0, .int .u8 0, .int .u16 0, .int .u16 0, .int .u16 0, .int .u16 0, .bool false, .slice none 0 0, .int .u16 0, .int .u16 0] 67 (0, 0)) by rw [f5.block _ (by omega) (fun h => h)]; exact B4.out)
  have R5 := Lib.hid (show w5.heap[w4.heap.size]? = some (.cells #[.bool false, .slice none 0 0, .int .i64 0, .int .i64 0] 71 (0, 0)) by rw [hw5, heap_alloc_if, if_pos rfl])
  have HW5 := Lib.hid hw5
  clear f4 f5 hw5 F3 F4 B3 B4 C2
  go_upto_region 6 with fail
  rw [← HW5.out]
  clear HW5
  have q13 : w5.cell? ⟨w2.heap.size, 13, none⟩ = some (.bool false) := by rw [Lib.cell_of_heap B5.out]; rfl
  have q14 : w5.cell? ⟨w2.heap.size, 14, none⟩ = some (.slice none 0 0) := by rw [Lib.cell_of_heap B5.out]; rfl
  have q15 : w5.cell? ⟨w2.heap.size, 15, none⟩ = some (.int .u16 0) := by rw [Lib.cell_of_heap B5.out]; rfl
  have q16 : w5.cell? ⟨w2.heap.size, 16, none⟩ = some (.int .u16 0) := by rw [Lib.cell_of_heap B5.out]; rfl
  have r0 : w5.cell? ⟨w4.heap.size, 0, none⟩ = some (.bool false) := by rw [Lib.cell_of_heap R5.out]; rfl
  have r1 : w5.cell? ⟨w4.heap.size, 1, none⟩ = some (.slice none 0 0) := by rw [Lib.cell_of_heap R5.out]; rfl
  have r2 : w5.cell? ⟨w4.heap.size, 2, none⟩ = some (.int .i64 0) := by rw [Lib.cell_of_heap R5.out]; rfl
  have r3 : w5.cell? ⟨w4.heap.size, 3, none⟩ = some (.int .i64 0) := by rw [Lib.cell_of_heap R5.out]; rfl
  have CS := Lib.hid (refSame21_any none 0 [] none 0 [] w5 (SlA.nil _) (SlA.nil _))
  rw [show decide (([] : List Lbl) = []) = true from rfl] at CS
  go_wp2_with fail
  refine CS.out.mono ?_
  rintro e w6 ⟨rfl, f6⟩
  have F6 := Lib.hid (Gr.trans F5.out f6)
  have z5 : w2.heap.size < w5.heap.size := lt_of_cell q13
  have B6 := Lib.hid (show w6.heap[w2.heap.size]? = some (.cells #[.int .u16 0, .bool false, .int .u8 0, .bool false, .bool false, .bool false, .bool false, .int .u8 0, .int .u8 0, .int .u16 0, .int .u16 0, .int .u16 0, .int .u16 0, .bool false, .slice none 0 0, .int .u16 0, .int .u16 0] 67 (0, 0)) by rw [f6.block _ z5 (fun h => h)]; exact B5.out)
  have z6 := f6.size
  clear f6 CS q13 q14 q15 q16 r0 r1 r2 r3 F5 B5 R5
  have q0 : w6.cell? ⟨w2.heap.size, 0, none⟩ = some (.int .u16 0) := by rw [Lib.cell_of_heap B6.out]; rfl
  have q1 : w6.cell? ⟨w2.heap.size, 1, none⟩ = some (.bool false) := by rw [Lib.cell_of_heap B6.out]; rfl
  have q2 : w6.cell? ⟨w2.heap.size, 2, none⟩ = some (.int .u8 0) := by rw [Lib.cell_of_heap B6.out]; rfl
  have q3 : w6.cell? ⟨w2.heap.size, 3, none⟩ = some (.bool false) := by rw [Lib.cell_of_heap B6.out]; rfl
  have q4 : w6.cell? ⟨w2.heap.size, 4, none⟩ = some (.bool false) := by rw [Lib.cell_of_heap B6.out]; rfl
  have q5 : w6.cell? ⟨w2.heap.size, 5, none⟩ = some (.bool false) := by rw [Lib.cell_of_heap B6.out]; rfl
  have q6 : w6.cell? ⟨w2.heap.size, 6, none⟩ = some (.bool false) := by rw [Lib.cell_of_heap B6.out]; rfl
  have q7 : w6.cell? ⟨w2.heap.size, 7, none⟩ = some (.int .u8 0) := by rw [Lib.cell_of_heap B6.out]; rfl
  have q8 : w6.cell? ⟨w2.heap.size, 8, none⟩ = some (.int .u8 0) := by rw [Lib.cell_of_heap B6.out]; rfl
  have q9 : w6.cell? ⟨w2.heap.size, 9, none⟩ = some (.int .u16 0) := by rw [Lib.cell_of_heap B6.out]; rfl
  have q10 : w6.cell? ⟨w2.heap.size, 10, none⟩ = some (.int .u16 0) := by rw [Lib.cell_of_heap B6.out]; rfl
  have q11 : w6.cell? ⟨w2.heap.size, 11, none⟩ = some (.int .u16 0) := by rw [Lib.cell_of_heap B6.out]; rfl
  have q12 : w6.cell? ⟨w2.heap.size, 12, none⟩ = some (.int .u16 0) := by rw [Lib.cell_of_heap B6.out]; rfl
  go_wp2_with fail
  go_ret
  exact ⟨rfl, F6.out⟩
set_option maxHeartbeats 4000000 in
set_option maxRecDepth 100000 in
theorem qp_2 (s t : List UInt8) (m : Nat) (W : World) (hm1 : m ≤ s.length) (hite : (if (400 : Int) < (s.length : Int) then (400 : Int) else (s.length : Int)) = (m : Int)) (hx1 : (⟨s.toArray⟩ : ByteArray).extract 0 m = ⟨t.toArray⟩) (htl : t.length ≤ 400) (code : Int) (h12 : ¬ t.length < 12) (hq : qOut t = (hdRead t, none, code, 0)) : Calls Try.prog 7 #[.string ⟨s.toArray⟩] W fun e w' => e = .returned (.bool true) ∧ Gr W w' := by
  have hsz := mk_size s
  have S0 := Lib.hid (fun w => speaks23_any w)
  have C1 := Lib.hid (fun w => qParse_any t w (by omega))
  have C2 := Lib.hid (fun w => refParse23_any t w (by omega))
  rw [hq] at C1 C2
  have heq := fun (w : World) (a0 a1 a2 a3 b0 b1 b2 b3 : Int) => eql_u16x4 w 9997 a0 a1 a2 a3 b0 b1 b2 b3
  have C3 := Lib.hid (fun w => headDecode_any t (by omega) w)
  have C3' : Hid (∀ w, Calls Try.prog 31 #[.string ⟨t.toArray⟩] w fun e w' => e = .returned (.tuple #[(hdRead t).val, .int .i64 0]) ∧ Gr w w') := Lib.hid (fun w => (C3.out w).mono (fun e w' h => ⟨by rw [h.2, if_neg h12], h.1⟩))
  clear hq C3 h12
  generalize hdRead t = h at *
  simp only [Hd.val] at C3'
  go_enter Try.func7, Try.ntmps7
  go_wp2_with fail
  refine (S0.out _).mono ?_
  rintro e w1 ⟨rfl, f1⟩
  have F1 := Lib.hid f1
  clear f1 S0
  go_wp2_with fail
  clear hite hx1 hm1 hsz
  refine (C1.out _).mono ?_
  rintro e w2 ⟨f2, rfl⟩
  have F2 := Lib.hid (Gr.trans F1.out f2)
  obtain ⟨w3, hw3⟩ : ∃ w3, w3 = w2.alloc (.cells #[.int .u16 h.id, .bool h.resp, .int .u8 h.op, .bool h.auth, .bool h.trunc, .bool h.des, .bool h.avail, .int .u8 h.zero, .int .u8 h.code, .int .u16 h.c0, .int .u16 h.c1, .int .u16 h.c2, .int .u16 h.c3, .bool false, .slice none 0 0, .int .u16 0, .int .u16 0] 67) := ⟨_, rfl⟩
  have f3 : Gr w2 w3 := by rw [hw3]; exact (Fr.refl _ _).alloc _
  have F3 := Lib.hid (Gr.trans F2.out f3)
  have B3 := Lib.hid (show w3.heap[w2.heap.size]? = some (.cells #[.int .u16 h.id, .bool h.resp, .int .u8 h.op, .bool h.auth, .bool h.trunc, .bool h.des, .bool h.avail, .int .u8 h.zero, .int .u8 h.code, .int .u16 h.c0, .int .u16 h.c1, .int .u16 h.c2, .int .u16 h.c3, .bool false, .slice none 0 0, .int .u16 0, .int .u16 0] 67 (0, 0)) by rw [hw3, heap_alloc_if, if_pos rfl])
  have z3 : w2.heap.size < w3.heap.size := by rw [hw3]; simp
  have HW3 := Lib.hid hw3
  clear f2 f3 hw3 F1 F2 C1
  go_upto_region 5 with fail
  rw [← HW3.out]
  clear HW3
  go_wp2_with fail
  refine (C2.out _).mono ?_
  rintro e w4 ⟨f4, rfl⟩
  have F4 := Lib.hid (Gr.trans F3.out f4)
  have z4 := f4.size
  have B4 := Lib.hid (show w4.heap[w2.heap.size]? = some (.cells #[.int .u16 h.id, .bool h.resp, .int .u8 h.op, .bool h.auth, .bool h.trunc, .bool h.des, .bool h.avail, .int .u8 h.zero, .int .u8 h.code, .int .u16 h.c0, .int .u16 h.c1, .int .u16 h.c2, .int .u16 h.c3, .bool false, .slice none 0 0, .int .u16 0, .int .u16 0] 67 (0, 0)) by rw [f4.block _ z3 (fun h => h)]; exact B3.out)
  obtain ⟨w5, hw5⟩ : ∃ w5, w5 = w4.alloc (.cells #[.bool false, .slice none 0 0, .int .i64 0, .int .i64 0] 71) := ⟨_, rfl⟩
  have f5 : Gr w4 w5 := by rw [hw5]; exact (Fr.refl _ _).alloc _
  have F5 := Lib.hid (Gr.trans F4.out f5)
  have B5 := Lib.hid (show w5.heap[w2.heap.size]? = some (.cells #[.int .u16 h.id, .bool h.resp, .int .u8 h.op, .bool h.auth, .bool h.trunc, .bool h.des, .bool h.avail, .int .u8 h.zero, .int .u8 h.code, .int .u16 h.c0, .int .u16 h.c1, .int .u16 h.c2, .int .u16 h.c3, .bool false, .slice none 0 0, .int .u16 0, .int .u16 0] 67 (0, 0)) by rw [f5.block _ (by omega) (fun h => h)]; exact B4.out)
  have R5 := Lib.hid (show w5.heap[w4.heap.size]? = some (.cells #[.bool false, .slice none 0 0, .int .i64 0, .int .i64 0] 71 (0, 0)) by rw [hw5, heap_alloc_if, if_pos rfl])
  have HW5 := Lib.hid hw5
  clear f4 f5 hw5 F3 F4 B3 B4 C2
  go_upto_region 6 with fail
  rw [← HW5.out]
  clear HW5
  have q13 : w5.cell? ⟨w2.heap.size, 13, none⟩ = some (.bool false) := by rw [Lib.cell_of_heap B5.out]; rfl
  have q14 : w5.cell? ⟨w2.heap.size, 14, none⟩ = some (.slice none 0 0) := by rw [Lib.cell_of_heap B5.out]; rfl
  have q15 : w5.cell? ⟨w2.heap.size, 15, none⟩ = some (.int .u16 0) := by rw [Lib.cell_of_heap B5.out]; rfl
  have q16 : w5.cell? ⟨w2.heap.size, 16, none⟩ = some (.int .u16 0) := by rw [Lib.cell_of_heap B5.out]; rfl
  have r0 : w5.cell? ⟨w4.heap.size, 0, none⟩ = some (.bool false) := by rw [Lib.cell_of_heap R5.out]; rfl
  have r1 : w5.cell? ⟨w4.heap.size, 1, none⟩ = some (.slice none 0 0) := by rw [Lib.cell_of_heap R5.out]; rfl
  have r2 : w5.cell? ⟨w4.heap.size, 2, none⟩ = some (.int .i64 0) := by rw [Lib.cell_of_heap R5.out]; rfl
  have r3 : w5.cell? ⟨w4.heap.size, 3, none⟩ = some (.int .i64 0) := by rw [Lib.cell_of_heap R5.out]; rfl
  have CS := Lib.hid (refSame21_any none 0 [] none 0 [] w5 (SlA.nil _) (SlA.nil _))
  rw [show decide (([] : List Lbl) = []) = true from rfl] at CS
  go_wp2_with fail
  refine CS.out.mono ?_
  rintro e w6 ⟨rfl, f6⟩
  have F6 := Lib.hid (Gr.trans F5.out f6)
  have z5 : w2.heap.size < w5.heap.size := lt_of_cell q13
  have B6 := Lib.hid (show w6.heap[w2.heap.size]? = some (.cells #[.int .u16 h.id, .bool h.resp, .int .u8 h.op, .bool h.auth, .bool h.trunc, .bool h.des, .bool h.avail, .int .u8 h.zero, .int .u8 h.code, .int .u16 h.c0, .int .u16 h.c1, .int .u16 h.c2, .int .u16 h.c3, .bool false, .slice none 0 0, .int .u16 0, .int .u16 0] 67 (0, 0)) by rw [f6.block _ z5 (fun h => h)]; exact B5.out)
  have z6 := f6.size
  clear f6 CS q13 q14 q15 q16 r0 r1 r2 r3 F5 B5 R5
  go_wp2_with fail
  refine (C3'.out _).mono ?_
  rintro e w7 ⟨rfl, f7⟩
  have F7 := Lib.hid (Gr.trans F6.out f7)
  have B7 := Lib.hid (show w7.heap[w2.heap.size]? = some (.cells #[.int .u16 h.id, .bool h.resp, .int .u8 h.op, .bool h.auth, .bool h.trunc, .bool h.des, .bool h.avail, .int .u8 h.zero, .int .u8 h.code, .int .u16 h.c0, .int .u16 h.c1, .int .u16 h.c2, .int .u16 h.c3, .bool false, .slice none 0 0, .int .u16 0, .int .u16 0] 67 (0, 0)) by rw [f7.block _ (by omega) (fun h => h)]; exact B6.out)
  have z7 := f7.size
  obtain ⟨w8, hw8⟩ : ∃ w8, w8 = w7.alloc (.cells #[.int .u16 h.id, .bool h.resp, .int .u8 h.op, .bool h.auth, .bool h.trunc, .bool h.des, .bool h.avail, .int .u8 h.zero, .int .u8 h.code, .int .u16 h.c0, .int .u16 h.c1, .int .u16 h.c2, .int .u16 h.c3] 64) := ⟨_, rfl⟩
  have f8 : Gr w7 w8 := by rw [hw8]; exact (Fr.refl _ _).alloc _
  have F8 := Lib.hid (Gr.trans F7.out f8)
  have B8 := Lib.hid (show w8.heap[w2.heap.size]? = some (.cells #[.int .u16 h.id, .bool h.resp, .int .u8 h.op, .bool h.auth, .bool h.trunc, .bool h.des, .bool h.avail, .int .u8 h.zero, .int .u8 h.code, .int .u16 h.c0, .int .u16 h.c1, .int .u16 h.c2, .int .u16 h.c3, .bool false, .slice none 0 0, .int .u16 0, .int .u16 0] 67 (0, 0)) by rw [f8.block _ (by omega) (fun h => h)]; exact B7.out)
  have R8 := Lib.hid (show w8.heap[w7.heap.size]? = some (.cells #[.int .u16 h.id, .bool h.resp, .int .u8 h.op, .bool h.auth, .bool h.trunc, .bool h.des, .bool h.avail, .int .u8 h.zero, .int .u8 h.code, .int .u16 h.c0, .int .u16 h.c1, .int .u16 h.c2, .int .u16 h.c3] 64 (0, 0)) by rw [hw8, heap_alloc_if, if_pos rfl])
  have HW8 := Lib.hid hw8
  clear f7 f8 hw8 F6 F7 B6 B7 C3'
  go_upto_region 11 with fail
  rw [← HW8.out]
  clear HW8
  have q0 : w8.cell? ⟨w2.heap.size, 0, none⟩ = some (.int .u16 h.id) := by rw [Lib.cell_of_heap B8.out]; rfl
  have q1 : w8.cell? ⟨w2.heap.size, 1, none⟩ = some (.bool h.resp) := by rw [Lib.cell_of_heap B8.out]; rfl
  have q2 : w8.cell? ⟨w2.heap.size, 2, none⟩ = some (.int .u8 h.op) := by rw [Lib.cell_of_heap B8.out]; rfl
  have q3 : w8.cell? ⟨w2.heap.size, 3, none⟩ = some (.bool h.auth) := by rw [Lib.cell_of_heap B8.out]; rfl
  have q4 : w8.cell? ⟨w2.heap.size, 4, none⟩ = some (.bool h.trunc) := by rw [Lib.cell_of_heap B8.out]; rfl
  have q5 : w8.cell? ⟨w2.heap.size, 5, none⟩ = some (.bool h.des) := by rw [Lib.cell_of_heap B8.out]; rfl
  have q6 : w8.cell? ⟨w2.heap.size, 6, none⟩ = some (.bool h.avail) := by rw [Lib.cell_of_heap B8.out]; rfl
  have q7 : w8.cell? ⟨w2.heap.size, 7, none⟩ = some (.int .u8 h.zero) := by rw [Lib.cell_of_heap B8.out]; rfl
  have q8 : w8.cell? ⟨w2.heap.size, 8, none⟩ = some (.int .u8 h.code) := by rw [Lib.cell_of_heap B8.out]; rfl
  have q9 : w8.cell? ⟨w2.heap.size, 9, none⟩ = some (.int .u16 h.c0) := by rw [Lib.cell_of_heap B8.out]; rfl
  have q10 : w8.cell? ⟨w2.heap.size, 10, none⟩ = some (.int .u16 h.c1) := by rw [Lib.cell_of_heap B8.out]; rfl
  have q11 : w8.cell? ⟨w2.heap.size, 11, none⟩ = some (.int .u16 h.c2) := by rw [Lib.cell_of_heap B8.out]; rfl
  have q12 : w8.cell? ⟨w2.heap.size, 12, none⟩ = some (.int .u16 h.c3) := by rw [Lib.cell_of_heap B8.out]; rfl
  have r0 : w8.cell? ⟨w7.heap.size, 0, none⟩ = some (.int .u16 h.id) := by rw [Lib.cell_of_heap R8.out]; rfl
  have r1 : w8.cell? ⟨w7.heap.size, 1, none⟩ = some (.bool h.resp) := by rw [Lib.cell_of_heap R8.out]; rfl
  have r2 : w8.cell? ⟨w7.heap.size, 2, none⟩ = some (.int .u8 h.op) := by rw [Lib.cell_of_heap R8.out]; rfl
  have r3 : w8.cell? ⟨w7.heap.size, 3, none⟩ = some (.bool h.auth) := by rw [Lib.cell_of_heap R8.out]; rfl
  have r4 : w8.cell? ⟨w7.heap.size, 4, none⟩ = some (.bool h.trunc) := by rw [Lib.cell_of_heap R8.out]; rfl
  have r5 : w8.cell? ⟨w7.heap.size, 5, none⟩ = some (.bool h.des) := by rw [Lib.cell_of_heap R8.out]; rfl
  have r6 : w8.cell? ⟨w7.heap.size, 6, none⟩ = some (.bool h.avail) := by rw [Lib.cell_of_heap R8.out]; rfl
  have r7 : w8.cell? ⟨w7.heap.size, 7, none⟩ = some (.int .u8 h.zero) := by rw [Lib.cell_of_heap R8.out]; rfl
  have r8 : w8.cell? ⟨w7.heap.size, 8, none⟩ = some (.int .u8 h.code) := by rw [Lib.cell_of_heap R8.out]; rfl
  have r9 : w8.cell? ⟨w7.heap.size, 9, none⟩ = some (.int .u16 h.c0) := by rw [Lib.cell_of_heap R8.out]; rfl
  have r10 : w8.cell? ⟨w7.heap.size, 10, none⟩ = some (.int .u16 h.c1) := by rw [Lib.cell_of_heap R8.out]; rfl
  have r11 : w8.cell? ⟨w7.heap.size, 11, none⟩ = some (.int .u16 h.c2) := by rw [Lib.cell_of_heap R8.out]; rfl
  have r12 : w8.cell? ⟨w7.heap.size, 12, none⟩ = some (.int .u16 h.c3) := by rw [Lib.cell_of_heap R8.out]; rfl
  go_wp2_with fail
  go_ret
  exact ⟨rfl, F8.out⟩
set_option maxHeartbeats 4000000 in
set_option maxRecDepth 100000 in
theorem qp_3 (s t : List UInt8) (m : Nat) (W : World) (hm1 : m ≤ s.length) (hite : (if (400 : Int) < (s.length : Int) then (400 : Int) else (s.length : Int)) = (m : Int)) (hx1 : (⟨s.toArray⟩ : ByteArray).extract 0 m = ⟨t.toArray⟩) (htl : t.length ≤ 400) (l : List Lbl) (tt cc code : Int) (ht : 0 ≤ tt ∧ tt ≤ 65535) (hc : 0 ≤ cc ∧ cc ≤ 65535) (h12 : ¬ t.length < 12) (hq : qOut t = (hdRead t, some (l, tt, cc), code, 0)) : Calls Try.prog 7 #[.string ⟨s.toArray⟩] W fun e w' => e = .returned (.bool true) ∧ Gr W w' := by
  have hsz := mk_size s
  have S0 := Lib.hid (fun w => speaks23_any w)
  have C1 := Lib.hid (fun w => qParse_any t w (by omega))
  have C2 := Lib.hid (fun w => refParse23_any t w (by omega))
  rw [hq] at C1 C2
  have heq := fun (w : World) (a0 a1 a2 a3 b0 b1 b2 b3 : Int) => eql_u16x4 w 9997 a0 a1 a2 a3 b0 b1 b2 b3
  have C3 := Lib.hid (fun w => headDecode_any t (by omega) w)
  have C3' : Hid (∀ w, Calls Try.prog 31 #[.string ⟨t.toArray⟩] w fun e w' => e = .returned (.tuple #[(hdRead t).val, .int .i64 0]) ∧ Gr w w') := Lib.hid (fun w => (C3.out w).mono (fun e w' h => ⟨by rw [h.2, if_neg h12], h.1⟩))
  clear hq C3 h12
  generalize hdRead t = h at *
  simp only [Hd.val] at C3'
  go_enter Try.func7, Try.ntmps7
  go_wp2_with fail
  refine (S0.out _).mono ?_
  rintro e w1 ⟨rfl, f1⟩
  have F1 := Lib.hid f1
  clear f1 S0
  go_wp2_with fail
  clear hite hx1 hm1 hsz
  refine (C1.out _).mono ?_
  rintro e w2 ⟨f2, v, o2, a, cap, rfl, rfl⟩
  have F2 := Lib.hid (Gr.trans F1.out f2)
  obtain ⟨a', cap', ev, s2, -⟩ := SlA.of_own o2
  cases ev
  have S2 := Lib.hid s2
  clear s2 o2
  obtain ⟨w3, hw3⟩ : ∃ w3, w3 = w2.alloc (.cells #[.int .u16 h.id, .bool h.resp, .int .u8 h.op, .bool h.auth, .bool h.trunc, .bool h.des, .bool h.avail, .int .u8 h.zero, .int .u8 h.code, .int .u16 h.c0, .int .u16 h.c1, .int .u16 h.c2, .int .u16 h.c3, .bool true, .slice a l.length cap, .int .u16 tt, .int .u16 cc] 67) := ⟨_, rfl⟩
  have f3 : Gr w2 w3 := by rw [hw3]; exact (Fr.refl _ _).alloc _
  have F3 := Lib.hid (Gr.trans F2.out f3)
  have B3 := Lib.hid (show w3.heap[w2.heap.size]? = some (.cells #[.int .u16 h.id, .bool h.resp, .int .u8 h.op, .bool h.auth, .bool h.trunc, .bool h.des, .bool h.avail, .int .u8 h.zero, .int .u8 h.code, .int .u16 h.c0, .int .u16 h.c1, .int .u16 h.c2, .int .u16 h.c3, .bool true, .slice a l.length cap, .int .u16 tt, .int .u16 cc] 67 (0, 0)) by rw [hw3, heap_alloc_if, if_pos rfl])
  have z3 : w2.heap.size < w3.heap.size := by rw [hw3]; simp
  have HW3 := Lib.hid hw3
  have S3 := Lib.hid (S2.out.keep f3 (fun _ _ h => h))
  clear S2
  clear f2 f3 hw3 F1 F2 C1
  go_upto_region 5 with fail
  rw [← HW3.out]
  clear HW3
  go_wp2_with fail
  refine (C2.out _).mono ?_
  rintro e w4 ⟨f4, a2, cap2, s4, rfl⟩
  have F4 := Lib.hid (Gr.trans F3.out f4)
  have S4 := Lib.hid s4
  have T4 := Lib.hid (S3.out.keep f4 (fun _ _ h => h))
  clear s4 S3
  have z4 := f4.size
  have B4 := Lib.hid (show w4.heap[w2.heap.size]? = some (.cells #[.int .u16 h.id, .bool h.resp, .int .u8 h.op, .bool h.auth, .bool h.trunc, .bool h.des, .bool h.avail, .int .u8 h.zero, .int .u8 h.code, .int .u16 h.c0, .int .u16 h.c1, .int .u16 h.c2, .int .u16 h.c3, .bool true, .slice a l.length cap, .int .u16 tt, .int .u16 cc] 67 (0, 0)) by rw [f4.block _ z3 (fun h => h)]; exact B3.out)
  obtain ⟨w5, hw5⟩ : ∃ w5, w5 = w4.alloc (.cells #[.bool true, .slice a2 l.length cap2, .int .i64 tt, .int .i64 cc] 71) := ⟨_, rfl⟩
  have f5 : Gr w4 w5 := by rw [hw5]; exact (Fr.refl _ _).alloc _
  have F5 := Lib.hid (Gr.trans F4.out f5)
  have B5 := Lib.hid (show w5.heap[w2.heap.size]? = some (.cells #[.int .u16 h.id, .bool h.resp, .int .u8 h.op, .bool h.auth, .bool h.trunc, .bool h.des, .bool h.avail, .int .u8 h.zero, .int .u8 h.code, .int .u16 h.c0, .int .u16 h.c1, .int .u16 h.c2, .int .u16 h.c3, .bool true, .slice a l.length cap, .int .u16 tt, .int .u16 cc] 67 (0, 0)) by rw [f5.block _ (by omega) (fun h => h)]; exact B4.out)
  have R5 := Lib.hid (show w5.heap[w4.heap.size]? = some (.cells #[.bool true, .slice a2 l.length cap2, .int .i64 tt, .int .i64 cc] 71 (0, 0)) by rw [hw5, heap_alloc_if, if_pos rfl])
  have HW5 := Lib.hid hw5
  have S5 := Lib.hid (S4.out.keep f5 (fun _ _ h => h))
  have T5 := Lib.hid (T4.out.keep f5 (fun _ _ h => h))
  clear S4 T4
  clear f4 f5 hw5 F3 F4 B3 B4 C2
  go_upto_region 6 with fail
  rw [← HW5.out]
  clear HW5
  have q13 : w5.cell? ⟨w2.heap.size, 13, none⟩ = some (.bool true) := by rw [Lib.cell_of_heap B5.out]; rfl
  have q14 : w5.cell? ⟨w2.heap.size, 14, none⟩ = some (.slice a l.length cap) := by rw [Lib.cell_of_heap B5.out]; rfl
  have q15 : w5.cell? ⟨w2.heap.size, 15, none⟩ = some (.int .u16 tt) := by rw [Lib.cell_of_heap B5.out]; rfl
  have q16 : w5.cell? ⟨w2.heap.size, 16, none⟩ = some (.int .u16 cc) := by rw [Lib.cell_of_heap B5.out]; rfl
  have r0 : w5.cell? ⟨w4.heap.size, 0, none⟩ = some (.bool true) := by rw [Lib.cell_of_heap R5.out]; rfl
  have r1 : w5.cell? ⟨w4.heap.size, 1, none⟩ = some (.slice a2 l.length cap2) := by rw [Lib.cell_of_heap R5.out]; rfl
  have r2 : w5.cell? ⟨w4.heap.size, 2, none⟩ = some (.int .i64 tt) := by rw [Lib.cell_of_heap R5.out]; rfl
  have r3 : w5.cell? ⟨w4.heap.size, 3, none⟩ = some (.int .i64 cc) := by rw [Lib.cell_of_heap R5.out]; rfl
  have CS := Lib.hid (refSame21_any a cap l a2 cap2 l w5 T5.out S5.out)
  rw [show decide (l = l) = true from decide_eq_true rfl] at CS
  obtain ⟨ht0, ht1⟩ := ht
  obtain ⟨hc0, hc1⟩ := hc
  go_wp2_with fail
  refine CS.out.mono ?_
  rintro e w6 ⟨rfl, f6⟩
  have F6 := Lib.hid (Gr.trans F5.out f6)
  have z5 : w2.heap.size < w5.heap.size := lt_of_cell q13
  have B6 := Lib.hid (show w6.heap[w2.heap.size]? = some (.cells #[.int .u16 h.id, .bool h.resp, .int .u8 h.op, .bool h.auth, .bool h.trunc, .bool h.des, .bool h.avail, .int .u8 h.zero, .int .u8 h.code, .int .u16 h.c0, .int .u16 h.c1, .int .u16 h.c2, .int .u16 h.c3, .bool true, .slice a l.length cap, .int .u16 tt, .int .u16 cc] 67 (0, 0)) by rw [f6.block _ z5 (fun h => h)]; exact B5.out)
  have z6 := f6.size
  clear f6 CS q13 q14 q15 q16 r0 r1 r2 r3 F5 B5 R5
  go_wp2_with fail
  refine (C3'.out _).mono ?_
  rintro e w7 ⟨rfl, f7⟩
  have F7 := Lib.hid (Gr.trans F6.out f7)
  have B7 := Lib.hid (show w7.heap[w2.heap.size]? = some (.cells #[.int .u16 h.id, .bool h.resp, .int .u8 h.op, .bool h.auth, .bool h.trunc, .bool h.des, .bool h.avail, .int .u8 h.zero, .int .u8 h.code, .int .u16 h.c0, .int .u16 h.c1, .int .u16 h.c2, .int .u16 h.c3, .bool true, .slice a l.length cap, .int .u16 tt, .int .u16 cc] 67 (0, 0)) by rw [f7.block _ (by omega) (fun h => h)]; exact B6.out)
  have z7 := f7.size
  obtain ⟨w8, hw8⟩ : ∃ w8, w8 = w7.alloc (.cells #[.int .u16 h.id, .bool h.resp, .int .u8 h.op, .bool h.auth, .bool h.trunc, .bool h.des, .bool h.avail, .int .u8 h.zero, .int .u8 h.code, .int .u16 h.c0, .int .u16 h.c1, .int .u16 h.c2, .int .u16 h.c3] 64) := ⟨_, rfl⟩
  have f8 : Gr w7 w8 := by rw [hw8]; exact (Fr.refl _ _).alloc _
  have F8 := Lib.hid (Gr.trans F7.out f8)
  have B8 := Lib.hid (show w8.heap[w2.heap.size]? = some (.cells #[.int .u16 h.id, .bool h.resp, .int .u8 h.op, .bool h.auth, .bool h.trunc, .bool h.des, .bool h.avail, .int .u8 h.zero, .int .u8 h.code, .int .u16 h.c0, .int .u16 h.c1, .int .u16 h.c2, .int .u16 h.c3, .bool true, .slice a l.length cap, .int .u16 tt, .int .u16 cc] 67 (0, 0)) by rw [f8.block _ (by omega) (fun h => h)]; exact B7.out)
  have R8 := Lib.hid (show w8.heap[w7.heap.size]? = some (.cells #[.int .u16 h.id, .bool h.resp, .int .u8 h.op, .bool h.auth, .bool h.trunc, .bool h.des, .bool h.avail, .int .u8 h.zero, .int .u8 h.code, .int .u16 h.c0, .int .u16 h.c1, .int .u16 h.c2, .int .u16 h.c3] 64 (0, 0)) by rw [hw8, heap_alloc_if, if_pos rfl])
  have HW8 := Lib.hid hw8
  clear f7 f8 hw8 F6 F7 B6 B7 C3'
  go_upto_region 11 with fail
  rw [← HW8.out]
  clear HW8
  have q0 : w8.cell? ⟨w2.heap.size, 0, none⟩ = some (.int .u16 h.id) := by rw [Lib.cell_of_heap B8.out]; rfl
  have q1 : w8.cell? ⟨w2.heap.size, 1, none⟩ = some (.bool h.resp) := by rw [Lib.cell_of_heap B8.out]; rfl
  have q2 : w8.cell? ⟨w2.heap.size, 2, none⟩ = some (.int .u8 h.op) := by rw [Lib.cell_of_heap B8.out]; rfl
  have q3 : w8.cell? ⟨w2.heap.size, 3, none⟩ = some (.bool h.auth) := by rw [Lib.cell_of_heap B8.out]; rfl
  have q4 : w8.cell? ⟨w2.heap.size, 4, none⟩ = some (.bool h.trunc) := by rw [Lib.cell_of_heap B8.out]; rfl
  have q5 : w8.cell? ⟨w2.heap.size, 5, none⟩ = some (.bool h.des) := by rw [Lib.cell_of_heap B8.out]; rfl
  have q6 : w8.cell? ⟨w2.heap.size, 6, none⟩ = some (.bool h.avail) := by rw [Lib.cell_of_heap B8.out]; rfl
  have q7 : w8.cell? ⟨w2.heap.size, 7, none⟩ = some (.int .u8 h.zero) := by rw [Lib.cell_of_heap B8.out]; rfl
  have q8 : w8.cell? ⟨w2.heap.size, 8, none⟩ = some (.int .u8 h.code) := by rw [Lib.cell_of_heap B8.out]; rfl
  have q9 : w8.cell? ⟨w2.heap.size, 9, none⟩ = some (.int .u16 h.c0) := by rw [Lib.cell_of_heap B8.out]; rfl
  have q10 : w8.cell? ⟨w2.heap.size, 10, none⟩ = some (.int .u16 h.c1) := by rw [Lib.cell_of_heap B8.out]; rfl
  have q11 : w8.cell? ⟨w2.heap.size, 11, none⟩ = some (.int .u16 h.c2) := by rw [Lib.cell_of_heap B8.out]; rfl
  have q12 : w8.cell? ⟨w2.heap.size, 12, none⟩ = some (.int .u16 h.c3) := by rw [Lib.cell_of_heap B8.out]; rfl
  have r0 : w8.cell? ⟨w7.heap.size, 0, none⟩ = some (.int .u16 h.id) := by rw [Lib.cell_of_heap R8.out]; rfl
  have r1 : w8.cell? ⟨w7.heap.size, 1, none⟩ = some (.bool h.resp) := by rw [Lib.cell_of_heap R8.out]; rfl
  have r2 : w8.cell? ⟨w7.heap.size, 2, none⟩ = some (.int .u8 h.op) := by rw [Lib.cell_of_heap R8.out]; rfl
  have r3 : w8.cell? ⟨w7.heap.size, 3, none⟩ = some (.bool h.auth) := by rw [Lib.cell_of_heap R8.out]; rfl
  have r4 : w8.cell? ⟨w7.heap.size, 4, none⟩ = some (.bool h.trunc) := by rw [Lib.cell_of_heap R8.out]; rfl
  have r5 : w8.cell? ⟨w7.heap.size, 5, none⟩ = some (.bool h.des) := by rw [Lib.cell_of_heap R8.out]; rfl
  have r6 : w8.cell? ⟨w7.heap.size, 6, none⟩ = some (.bool h.avail) := by rw [Lib.cell_of_heap R8.out]; rfl
  have r7 : w8.cell? ⟨w7.heap.size, 7, none⟩ = some (.int .u8 h.zero) := by rw [Lib.cell_of_heap R8.out]; rfl
  have r8 : w8.cell? ⟨w7.heap.size, 8, none⟩ = some (.int .u8 h.code) := by rw [Lib.cell_of_heap R8.out]; rfl
  have r9 : w8.cell? ⟨w7.heap.size, 9, none⟩ = some (.int .u16 h.c0) := by rw [Lib.cell_of_heap R8.out]; rfl
  have r10 : w8.cell? ⟨w7.heap.size, 10, none⟩ = some (.int .u16 h.c1) := by rw [Lib.cell_of_heap R8.out]; rfl
  have r11 : w8.cell? ⟨w7.heap.size, 11, none⟩ = some (.int .u16 h.c2) := by rw [Lib.cell_of_heap R8.out]; rfl
  have r12 : w8.cell? ⟨w7.heap.size, 12, none⟩ = some (.int .u16 h.c3) := by rw [Lib.cell_of_heap R8.out]; rfl
  go_wp2_with fail
  go_ret
  exact ⟨rfl, F8.out⟩
theorem queryParses_walk (s : List UInt8) (W : World) : Calls Try.prog 7 #[.string ⟨s.toArray⟩] W fun e w' => e = .returned (.bool true) ∧ Gr W w' := by
  obtain ⟨m, hm1, hm2, hite, -, hm3⟩ := cut_minQ 400 400 rfl s
  have hx1 : (⟨s.toArray⟩ : ByteArray).extract 0 m = ⟨(s.take m).toArray⟩ := by rw [mk_extract, List.drop_zero]
  have htl : (s.take m).length ≤ 400 := by simp; omega
  rcases qOut_cases (s.take m) with ⟨er, her, hq⟩ | ⟨h12, ⟨code, hq⟩ | ⟨l, t, c, code, -, ht, hc, hq⟩⟩
  · exact qp_1 s _ m W hm1 hite hx1 htl er her hq
  · exact qp_2 s _ m W hm1 hite hx1 htl code h12 hq
  · exact qp_3 s _ m W hm1 hite hx1 htl l t c code ht hc h12 hq
end Go.Proofs.Ytkclgemkeifbaaa
