/-
  Package query: Parse (printed by gen_qparse.py).
-/
import Derived.Test.YtkclgemkeifbaaaQSpec
namespace Go.Proofs.Ytkclgemkeifbaaa
open Go.RowKit Go.Proofs

def QParseEnd (x : Hd × Option (List Lbl × Int × Int) × Int × Int) (w : World) (e : Ending) (w' : World) : Prop :=
  Gr w w' ∧ match x with
  | (h, none, code, er) => e = .returned (.tuple #[.agg (qCells h false none 0 0 0 0), .int .i64 code, .int .i64 er])
  | (h, some (l, t, c), code, er) => ∃ v, w'.ownsRow w.heap.size 9 1 v l.length (strVs l) ∧ ∃ a cap, v = .slice a l.length cap ∧ e = .returned (.tuple #[.agg (qCells h true a l.length cap t c), .int .i64 code, .int .i64 er])
theorem build_q0 (ρ : Operand → Value) (w : World) (dst : Option Tmp) (ty : TypeId) (pos : String) (after : Array Edge) :
    (execOp ρ ⟨dst, .build 67 #[], ty, pos, after, none⟩).run Try.prog w = .ok (.value (.agg #[.int .u16 0, .bool false, .int .u8 0, .bool false, .bool false, .bool false, .bool false, .int .u8 0, .int .u8 0, .int .u16 0, .int .u16 0, .int .u16 0, .int .u16 0, .bool false, .slice none 0 0, .int .u16 0, .int .u16 0])) w := by
  simp [go_sem]
theorem wpList_q0 {ops : Array Oper} {rest : List Oper} {dst : Option Tmp} {ty : TypeId} {pos : String} {after : Array Edge} {A : Act} {w : World} {Q : Exit → Act → World → Prop}
    (h : wpList Try.prog ops Q rest (A.put dst (.agg #[.int .u16 0, .bool false, .int .u8 0, .bool false, .bool false, .bool false, .bool false, .int .u8 0, .int .u8 0, .int .u16 0, .int .u16 0, .int .u16 0, .int .u16 0, .bool false, .slice none 0 0, .int .u16 0, .int .u16 0])) w) :
    wpList Try.prog ops Q (⟨dst, .build 67 #[], ty, pos, after, none⟩ :: rest) A w := by
  refine wpList_plain rfl fun K hK => ?_
  unfold Oper.wp
  rw [build_q0]
  exact hK _ _ h
theorem wpList_mv {ops : Array Oper} {rest : List Oper} {dst : Option Tmp} {ty : TypeId} {pos : String} {after : Array Edge} {x : Operand} {A : Act} {w : World} {Q : Exit → Act → World → Prop}
    (h : wpList Try.prog ops Q rest (A.put dst (A.eval x)) w) : wpList Try.prog ops Q (⟨dst, .move x, ty, pos, after, none⟩ :: rest) A w := by
  refine wpList_plain rfl fun K hK => ?_
  unfold Oper.wp
  have e : (execOp A.eval ⟨dst, .move x, ty, pos, after, none⟩).run Try.prog w = .ok (.value (A.eval x)) w := by simp [go_sem]
  rw [e]
  exact hK _ _ h


set_option maxHeartbeats 8000000 in
set_option maxRecDepth 100000 in
theorem qParse_A (s : List UInt8) (W : World) (hs : s.length ≤ 100000) (h12 : s.length < 12) : Calls Try.prog 28 #[.string ⟨s.toArray⟩] W (QParseEnd (hdZero, none, 0, 2) W) := by
  obtain ⟨w1, hw1⟩ : ∃ w1, w1 = W.alloc (.cells #[.int .u16 0, .bool false, .int .u8 0, .bool false, .bool false, .bool false, .bool false, .int .u8 0, .int .u8 0, .int .u16 0, .int .u16 0, .int .u16 0, .int .u16 0, .bool false, .slice none 0 0, .int .u16 0, .int .u16 0] 67) := ⟨_, rfl⟩
  have f1 : Gr W w1 := by rw [hw1]; exact (Fr.refl _ _).alloc _
  have b1 : w1.heap[W.heap.size]? = some (.cells #[.int .u16 0, .bool false, .int .u8 0, .bool false, .bool false, .bool false, .bool false, .int .u8 0, .int .u8 0, .int .u16 0, .int .u16 0, .int .u16 0, .int .u16 0, .bool false, .slice none 0 0, .int .u16 0, .int .u16 0] 67 (0, 0)) := by rw [hw1, heap_alloc_if, if_pos rfl]
  have s1 : W.heap.size < w1.heap.size := by rw [hw1]; simp
  have CD := Lib.hid (headDecode_any s (by omega) w1)
  have HW1 := Lib.hid hw1
  have F1 := Lib.hid f1
  have B1 := Lib.hid b1
  clear hw1 f1 b1
  go_enter Try.func28, Try.ntmps28
  go_upto_region 1 with fail
  rw [← HW1.out]
  go_wp2_with fail
  refine CD.out.mono ?_
  rintro e w2 ⟨f2, rfl⟩
  rw [if_pos h12]
  simp only [Hd.val, hdZero]
  have F2 := Lib.hid (Gr.trans F1.out f2)
  have b2 : w2.heap[W.heap.size]? = some (.cells #[.int .u16 0, .bool false, .int .u8 0, .bool false, .bool false, .bool false, .bool false, .int .u8 0, .int .u8 0, .int .u16 0, .int .u16 0, .int .u16 0, .int .u16 0, .bool false, .slice none 0 0, .int .u16 0, .int .u16 0] 67 (0, 0)) := by rw [f2.block _ (by omega) (fun h => h)]; exact B1.out
  have s2 := f2.size
  obtain ⟨w3, hw3⟩ : ∃ w3, w3 = w2.alloc (.cells #[.int .u16 0, .bool false, .int .u8 0, .bool false, .bool false, .bool false, .bool false, .int .u8 0, .int .u8 0, .int .u16 0, .int .u16 0, .int .u16 0, .int .u16 0] 64) := ⟨_, rfl⟩
  have f3 : Gr w2 w3 := by rw [hw3]; exact (Fr.refl _ _).alloc _
  have b3 : w3.heap[W.heap.size]? = some (.cells #[.int .u16 0, .bool false, .int .u8 0, .bool false, .bool false, .bool false, .bool false, .int .u8 0, .int .u8 0, .int .u16 0, .int .u16 0, .int .u16 0, .int .u16 0, .bool false, .slice none 0 0, .int .u16 0, .int .u16 0] 67 (0, 0)) := by rw [f3.block _ (by omega) (fun h => h)]; exact b2
  have F3 := Lib.hid (Gr.trans F2.out f3)
  have HW3 := Lib.hid hw3
  clear f2 f3 b2 hw3 CD HW1
  go_upto_region 2 with fail
  rw [← HW3.out]
  have B3 := Lib.hid b3
  clear b3
  go_upto_region 3 with fail
  have IN : Hid ((Try.prog.info? 67).map (·.size) = some 17) := Lib.hid (by kernel_rfl)
  obtain ⟨w6, hw6⟩ : ∃ w6, w6 = w3.setCells W.heap.size 0 [.int .u16 0, .bool false, .int .u8 0, .bool false, .bool false, .bool false, .bool false, .int .u8 0, .int .u8 0, .int .u16 0, .int .u16 0, .int .u16 0, .int .u16 0, .bool false, .slice none 0 0, .int .u16 0, .int .u16 0] := ⟨_, rfl⟩
  have b6 : w6.heap[W.heap.size]? = some (.cells #[.int .u16 0, .bool false, .int .u8 0, .bool false, .bool false, .bool false, .bool false, .int .u8 0, .int .u8 0, .int .u16 0, .int .u16 0, .int .u16 0, .int .u16 0, .bool false, .slice none 0 0, .int .u16 0, .int .u16 0] 67 (0, 0)) := by rw [hw6]; exact blk_all B3.out #[.int .u16 0, .bool false, .int .u8 0, .bool false, .bool false, .bool false, .bool false, .int .u8 0, .int .u8 0, .int .u16 0, .int .u16 0, .int .u16 0, .int .u16 0, .bool false, .slice none 0 0, .int .u16 0, .int .u16 0] rfl
  have f6 : Fr (· = W.heap.size) w3 w6 := by rw [hw6]; exact fr_setCells _ _ _ _
  have TH := Lib.hid (blk_there B3.out 17 (by decide))
  have G6 := Lib.hid (gr_of_new ((new_of_gr F3.out).trans f6 (fun j h => .inl (by omega))))
  have HW6 := Lib.hid hw6
  have L6 : Hid ((loadVar 67 ⟨W.heap.size, 0, none⟩).run Try.prog w6 = .ok (.agg (qCells hdZero false none 0 0 0 0)) w6) := Lib.hid (run_loadVar_mid w6 W.heap.size 0 67 [.int .u16 0, .bool false, .int .u8 0, .bool false, .bool false, .bool false, .bool false, .int .u8 0, .int .u8 0, .int .u16 0, .int .u16 0, .int .u16 0, .int .u16 0, .bool false, .slice none 0 0, .int .u16 0, .int .u16 0] _ (blk_range b6) Try.underlying67 rfl (by rw [IN.out]; rfl))
  have A6 : Hid ((asAddr (.pointer (some ⟨W.heap.size, 0, none⟩))).run Try.prog w6 = .ok ⟨W.heap.size, 0, none⟩ w6) := Lib.hid (by simp [go_sem])
  clear hw6 f6 b6
  refine wp_region_lit ?_
  refine wpList_q0 ?_
  refine wpList_mv ?_
  refine wpList_store_mid (by rfl) 67 _ _ (by rfl) W.heap.size 0 #[.int .u16 0, .bool false, .int .u8 0, .bool false, .bool false, .bool false, .bool false, .int .u8 0, .int .u8 0, .int .u16 0, .int .u16 0, .int .u16 0, .int .u16 0, .bool false, .slice none 0 0, .int .u16 0, .int .u16 0] (by rfl) (by rfl) TH.out (by rw [IN.out]; rfl) (by rw [← Array.all_toList]; rfl) ?_
  rw [← HW6.out]
  go_wp2_with fail
  refine bodyPost_ret (v := .tuple #[.agg (qCells hdZero false none 0 0 0 0), .int .i64 0, .int .i64 2]) (by simp [results, Try.results28, Sem.run_bind, Result.andThen_ok, L6.out, A6.out]) rfl ⟨G6.out, rfl⟩

set_option maxHeartbeats 8000000 in
set_option maxRecDepth 100000 in
theorem qParse_B (s : List UInt8) (W : World) (hs : s.length ≤ 100000) (h12 : ¬ s.length < 12) (hr : (hdRead s).resp = true) : Calls Try.prog 28 #[.string ⟨s.toArray⟩] W (QParseEnd (hdZero, none, 0, 8) W) := by
  obtain ⟨w1, hw1⟩ : ∃ w1, w1 = W.alloc (.cells #[.int .u16 0, .bool false, .int .u8 0, .bool false, .bool false, .bool false, .bool false, .int .u8 0, .int .u8 0, .int .u16 0, .int .u16 0, .int .u16 0, .int .u16 0, .bool false, .slice none 0 0, .int .u16 0, .int .u16 0] 67) := ⟨_, rfl⟩
  have f1 : Gr W w1 := by rw [hw1]; exact (Fr.refl _ _).alloc _
  have b1 : w1.heap[W.heap.size]? = some (.cells #[.int .u16 0, .bool false, .int .u8 0, .bool false, .bool false, .bool false, .bool false, .int .u8 0, .int .u8 0, .int .u16 0, .int .u16 0, .int .u16 0, .int .u16 0, .bool false, .slice none 0 0, .int .u16 0, .int .u16 0] 67 (0, 0)) := by rw [hw1, heap_alloc_if, if_pos rfl]
  have s1 : W.heap.size < w1.heap.size := by rw [hw1]; simp
  have CD := Lib.hid (headDecode_any s (by omega) w1)
  have HW1 := Lib.hid hw1
  have F1 := Lib.hid f1
  have B1 := Lib.hid b1
  clear hw1 f1 b1
  have hfit := hdRead_fits s
  have HF := Lib.hid hfit
  have CQ : Hid (∀ q w, w.heap[q]? = some (.cells (qCells (hdRead s) false none 0 0 0 0) 67 (0, 0)) → Calls Try.prog 62 #[.pointer (some ⟨q, 0, none⟩), .string ⟨s.toArray⟩] w (QuestEnd q (hdRead s) (qQuest s) w)) := Lib.hid (fun q w h => question_any q s w (by omega) hs h)
  have CE := Lib.hid (CD.out.mono (fun e w' h => (⟨h.1, by rw [h.2, if_neg h12]⟩ : Gr w1 w' ∧ e = .returned (.tuple #[(hdRead s).val, .int .i64 0]))))
  clear hfit CD
  generalize hdRead s = h at *
  generalize qQuest s = r at *
  have b0 := HF.out.id
  have b2 := HF.out.op
  have b7 := HF.out.zero
  have b8 := HF.out.code
  have HRR := Lib.hid hr
  clear hr
  go_enter Try.func28, Try.ntmps28
  go_upto_region 1 with fail
  rw [← HW1.out]
  go_wp2_with fail
  refine CE.out.mono ?_
  rintro e w2 ⟨f2, rfl⟩
  simp only [Hd.val]
  have F2 := Lib.hid (Gr.trans F1.out f2)
  have b2 : w2.heap[W.heap.size]? = some (.cells #[.int .u16 0, .bool false, .int .u8 0, .bool false, .bool false, .bool false, .bool false, .int .u8 0, .int .u8 0, .int .u16 0, .int .u16 0, .int .u16 0, .int .u16 0, .bool false, .slice none 0 0, .int .u16 0, .int .u16 0] 67 (0, 0)) := by rw [f2.block _ (by omega) (fun h => h)]; exact B1.out
  have s2 := f2.size
  obtain ⟨w3, hw3⟩ : ∃ w3, w3 = w2.alloc (.cells #[.int .u16 h.id, .bool h.resp, .int .u8 h.op, .bool h.auth, .bool h.trunc, .bool h.des, .bool h.avail, .int .u8 h.zero, .int .u8 h.code, .int .u16 h.c0, .int .u16 h.c1, .int .u16 h.c2, .int .u16 h.c3] 64) := ⟨_, rfl⟩
  have f3 : Gr w2 w3 := by rw [hw3]; exact (Fr.refl _ _).alloc _
  have s3 : w2.heap.size < w3.heap.size := by rw [hw3]; simp
  have b3 : w3.heap[W.heap.size]? = some (.cells #[.int .u16 0, .bool false, .int .u8 0, .bool false, .bool false, .bool false, .bool false, .int .u8 0, .int .u8 0, .int .u16 0, .int .u16 0, .int .u16 0, .int .u16 0, .bool false, .slice none 0 0, .int .u16 0, .int .u16 0] 67 (0, 0)) := by rw [f3.block _ (by omega) (fun h => h)]; exact b2
  have k3 : w3.heap[w2.heap.size]? = some (.cells #[.int .u16 h.id, .bool h.resp, .int .u8 h.op, .bool h.auth, .bool h.trunc, .bool h.des, .bool h.avail, .int .u8 h.zero, .int .u8 h.code, .int .u16 h.c0, .int .u16 h.c1, .int .u16 h.c2, .int .u16 h.c3] 64 (0, 0)) := by rw [hw3, heap_alloc_if, if_pos rfl]
  have F3 := Lib.hid (Gr.trans F2.out f3)
  have HW3 := Lib.hid hw3
  have B3 := Lib.hid b3
  have K3 := Lib.hid k3
  clear f2 f3 b2 hw3 CE HW1 b3 k3 F1 B1
  go_upto_region 2 with fail
  rw [← HW3.out]
  clear HW3
  have k1 : w3.cell? ⟨w2.heap.size, 1, none⟩ = some (.bool true) := by rw [Lib.cell_of_heap K3.out, ← HRR.out]; rfl
  go_upto_region 5 with fail
  clear k1
  have IN : Hid ((Try.prog.info? 67).map (·.size) = some 17) := Lib.hid (by kernel_rfl)
  obtain ⟨w6, hw6⟩ : ∃ w6, w6 = w3.setCells W.heap.size 0 [.int .u16 0, .bool false, .int .u8 0, .bool false, .bool false, .bool false, .bool false, .int .u8 0, .int .u8 0, .int .u16 0, .int .u16 0, .int .u16 0, .int .u16 0, .bool false, .slice none 0 0, .int .u16 0, .int .u16 0] := ⟨_, rfl⟩
  have b6 : w6.heap[W.heap.size]? = some (.cells #[.int .u16 0, .bool false, .int .u8 0, .bool false, .bool false, .bool false, .bool false, .int .u8 0, .int .u8 0, .int .u16 0, .int .u16 0, .int .u16 0, .int .u16 0, .bool false, .slice none 0 0, .int .u16 0, .int .u16 0] 67 (0, 0)) := by rw [hw6]; exact blk_all B3.out #[.int .u16 0, .bool false, .int .u8 0, .bool false, .bool false, .bool false, .bool false, .int .u8 0, .int .u8 0, .int .u16 0, .int .u16 0, .int .u16 0, .int .u16 0, .bool false, .slice none 0 0, .int .u16 0, .int .u16 0] rfl
  have f6 : Fr (· = W.heap.size) w3 w6 := by rw [hw6]; exact fr_setCells _ _ _ _
  have TH := Lib.hid (blk_there B3.out 17 (by decide))
  have G6 := Lib.hid (gr_of_new ((new_of_gr F3.out).trans f6 (fun j h => .inl (by omega))))
  have HW6 := Lib.hid hw6
  have L6 : Hid ((loadVar 67 ⟨W.heap.size, 0, none⟩).run Try.prog w6 = .ok (.agg (qCells hdZero false none 0 0 0 0)) w6) := Lib.hid (run_loadVar_mid w6 W.heap.size 0 67 [.int .u16 0, .bool false, .int .u8 0, .bool false, .bool false, .bool false, .bool false, .int .u8 0, .int .u8 0, .int .u16 0, .int .u16 0, .int .u16 0, .int .u16 0, .bool false, .slice none 0 0, .int .u16 0, .int .u16 0] _ (blk_range b6) Try.underlying67 rfl (by rw [IN.out]; rfl))
  have A6 : Hid ((asAddr (.pointer (some ⟨W.heap.size, 0, none⟩))).run Try.prog w6 = .ok ⟨W.heap.size, 0, none⟩ w6) := Lib.hid (by simp [go_sem])
  clear hw6 f6 b6
  refine wp_region_lit ?_
  refine wpList_q0 ?_
  refine wpList_store_mid (by rfl) 67 _ _ (by rfl) W.heap.size 0 #[.int .u16 0, .bool false, .int .u8 0, .bool false, .bool false, .bool false, .bool false, .int .u8 0, .int .u8 0, .int .u16 0, .int .u16 0, .int .u16 0, .int .u16 0, .bool false, .slice none 0 0, .int .u16 0, .int .u16 0] (by rfl) (by rfl) TH.out (by rw [IN.out]; rfl) (by rw [← Array.all_toList]; rfl) ?_
  rw [← HW6.out]
  go_wp2_with fail
  refine bodyPost_ret (v := .tuple #[.agg (qCells hdZero false none 0 0 0 0), .int .i64 0, .int .i64 8]) (by simp [results, Try.results28, Sem.run_bind, Result.andThen_ok, L6.out, A6.out]) rfl ⟨G6.out, rfl⟩

set_option maxHeartbeats 8000000 in
set_option maxRecDepth 100000 in
theorem qParse_C (s : List UInt8) (W : World) (hs : s.length ≤ 100000) (h12 : ¬ s.length < 12) (hr : (hdRead s).resp = false) (ho : (hdRead s).op ≠ 0) : Calls Try.prog 28 #[.string ⟨s.toArray⟩] W (QParseEnd (hdRead s, none, 4, 0) W) := by
  obtain ⟨w1, hw1⟩ : ∃ w1, w1 = W.alloc (.cells #[.int .u16 0, .bool false, .int .u8 0, .bool false, .bool false, .bool false, .bool false, .int .u8 0, .int .u8 0, .int .u16 0, .int .u16 0, .int .u16 0, .int .u16 0, .bool false, .slice none 0 0, .int .u16 0, .int .u16 0] 67) := ⟨_, rfl⟩
  have f1 : Gr W w1 := by rw [hw1]; exact (Fr.refl _ _).alloc _
  have b1 : w1.heap[W.heap.size]? = some (.cells #[.int .u16 0, .bool false, .int .u8 0, .bool false, .bool false, .bool false, .bool false, .int .u8 0, .int .u8 0, .int .u16 0, .int .u16 0, .int .u16 0, .int .u16 0, .bool false, .slice none 0 0, .int .u16 0, .int .u16 0] 67 (0, 0)) := by rw [hw1, heap_alloc_if, if_pos rfl]
  have s1 : W.heap.size < w1.heap.size := by rw [hw1]; simp
  have CD := Lib.hid (headDecode_any s (by omega) w1)
  have HW1 := Lib.hid hw1
  have F1 := Lib.hid f1
  have B1 := Lib.hid b1
  clear hw1 f1 b1
  have hfit := hdRead_fits s
  have HF := Lib.hid hfit
  have CQ : Hid (∀ q w, w.heap[q]? = some (.cells (qCells (hdRead s) false none 0 0 0 0) 67 (0, 0)) → Calls Try.prog 62 #[.pointer (some ⟨q, 0, none⟩), .string ⟨s.toArray⟩] w (QuestEnd q (hdRead s) (qQuest s) w)) := Lib.hid (fun q w h => question_any q s w (by omega) hs h)
  have CE := Lib.hid (CD.out.mono (fun e w' h => (⟨h.1, by rw [h.2, if_neg h12]⟩ : Gr w1 w' ∧ e = .returned (.tuple #[(hdRead s).val, .int .i64 0]))))
  clear hfit CD
  generalize hdRead s = h at *
  generalize qQuest s = r at *
  have b0 := HF.out.id
  have b2 := HF.out.op
  have b7 := HF.out.zero
  have b8 := HF.out.code
  have HRR := Lib.hid hr
  clear hr
  have ho' : (h.op == 0) = false := by simpa using ho
  go_enter Try.func28, Try.ntmps28
  go_upto_region 1 with fail
  rw [← HW1.out]
  go_wp2_with fail
  refine CE.out.mono ?_
  rintro e w2 ⟨f2, rfl⟩
  simp only [Hd.val]
  have F2 := Lib.hid (Gr.trans F1.out f2)
  have b2 : w2.heap[W.heap.size]? = some (.cells #[.int .u16 0, .bool false, .int .u8 0, .bool false, .bool false, .bool false, .bool false, .int .u8 0, .int .u8 0, .int .u16 0, .int .u16 0, .int .u16 0, .int .u16 0, .bool false, .slice none 0 0, .int .u16 0, .int .u16 0] 67 (0, 0)) := by rw [f2.block _ (by omega) (fun h => h)]; exact B1.out
  have s2 := f2.size
  obtain ⟨w3, hw3⟩ : ∃ w3, w3 = w2.alloc (.cells #[.int .u16 h.id, .bool h.resp, .int .u8 h.op, .bool h.auth, .bool h.trunc, .bool h.des, .bool h.avail, .int .u8 h.zero, .int .u8 h.code, .int .u16 h.c0, .int .u16 h.c1, .int .u16 h.c2, .int .u16 h.c3] 64) := ⟨_, rfl⟩
  have f3 : Gr w2 w3 := by rw [hw3]; exact (Fr.refl _ _).alloc _
  have s3 : w2.heap.size < w3.heap.size := by rw [hw3]; simp
  have b3 : w3.heap[W.heap.size]? = some (.cells #[.int .u16 0, .bool false, .int .u8 0, .bool false, .bool false, .bool false, .bool false, .int .u8 0, .int .u8 0, .int .u16 0, .int .u16 0, .int .u16 0, .int .u16 0, .bool false, .slice none 0 0, .int .u16 0, .int .u16 0] 67 (0, 0)) := by rw [f3.block _ (by omega) (fun h => h)]; exact b2
  have k3 : w3.heap[w2.heap.size]? = some (.cells #[.int .u16 h.id, .bool h.resp, .int .u8 h.op, .bool h.auth, .bool h.trunc, .bool h.des, .bool h.avail, .int .u8 h.zero, .int .u8 h.code, .int .u16 h.c0, .int .u16 h.c1, .int .u16 h.c2, .int .u16 h.c3] 64 (0, 0)) := by rw [hw3, heap_alloc_if, if_pos rfl]
  have F3 := Lib.hid (Gr.trans F2.out f3)
  have HW3 := Lib.hid hw3
  have B3 := Lib.hid b3
  have K3 := Lib.hid k3
  clear f2 f3 b2 hw3 CE HW1 b3 k3 F1 B1
  go_upto_region 2 with fail
  rw [← HW3.out]
  clear HW3
  have k1 : w3.cell? ⟨w2.heap.size, 1, none⟩ = some (.bool false) := by rw [Lib.cell_of_heap K3.out, ← HRR.out]; rfl
  have k0 : w3.cell? ⟨w2.heap.size, 0, none⟩ = some (.int .u16 h.id) := by rw [Lib.cell_of_heap K3.out]; rfl
  have k2 : w3.cell? ⟨w2.heap.size, 2, none⟩ = some (.int .u8 h.op) := by rw [Lib.cell_of_heap K3.out]; rfl
  have k3 : w3.cell? ⟨w2.heap.size, 3, none⟩ = some (.bool h.auth) := by rw [Lib.cell_of_heap K3.out]; rfl
  have k4 : w3.cell? ⟨w2.heap.size, 4, none⟩ = some (.bool h.trunc) := by rw [Lib.cell_of_heap K3.out]; rfl
  have k5 : w3.cell? ⟨w2.heap.size, 5, none⟩ = some (.bool h.des) := by rw [Lib.cell_of_heap K3.out]; rfl
  have k6 : w3.cell? ⟨w2.heap.size, 6, none⟩ = some (.bool h.avail) := by rw [Lib.cell_of_heap K3.out]; rfl
  have k7 : w3.cell? ⟨w2.heap.size, 7, none⟩ = some (.int .u8 h.zero) := by rw [Lib.cell_of_heap K3.out]; rfl
  have k8 : w3.cell? ⟨w2.heap.size, 8, none⟩ = some (.int .u8 h.code) := by rw [Lib.cell_of_heap K3.out]; rfl
  have k9 : w3.cell? ⟨w2.heap.size, 9, none⟩ = some (.int .u16 h.c0) := by rw [Lib.cell_of_heap K3.out]; rfl
  have k10 : w3.cell? ⟨w2.heap.size, 10, none⟩ = some (.int .u16 h.c1) := by rw [Lib.cell_of_heap K3.out]; rfl
  have k11 : w3.cell? ⟨w2.heap.size, 11, none⟩ = some (.int .u16 h.c2) := by rw [Lib.cell_of_heap K3.out]; rfl
  have k12 : w3.cell? ⟨w2.heap.size, 12, none⟩ = some (.int .u16 h.c3) := by rw [Lib.cell_of_heap K3.out]; rfl
  obtain ⟨w4, hw4⟩ : ∃ w4, w4 = w3.alloc (.cells #[.int .u16 h.id, .bool false, .int .u8 h.op, .bool h.auth, .bool h.trunc, .bool h.des, .bool h.avail, .int .u8 h.zero, .int .u8 h.code, .int .u16 h.c0, .int .u16 h.c1, .int .u16 h.c2, .int .u16 h.c3, .bool false, .slice none 0 0, .int .u16 0, .int .u16 0] 67) := ⟨_, rfl⟩
  have f4 : Gr w3 w4 := by rw [hw4]; exact (Fr.refl _ _).alloc _
  have s4 : w3.heap.size < w4.heap.size := by rw [hw4]; simp
  have B4 := Lib.hid (show w4.heap[W.heap.size]? = some (.cells #[.int .u16 0, .bool false, .int .u8 0, .bool false, .bool false, .bool false, .bool false, .int .u8 0, .int .u8 0, .int .u16 0, .int .u16 0, .int .u16 0, .int .u16 0, .bool false, .slice none 0 0, .int .u16 0, .int .u16 0] 67 (0, 0)) by rw [f4.block _ (by omega) (fun h => h)]; exact B3.out)
  have Q4 := Lib.hid (show w4.heap[w3.heap.size]? = some (.cells (qCells h false none 0 0 0 0) 67 (0, 0)) by rw [hw4, heap_alloc_if, if_pos rfl, ← HRR.out])
  have F4 := Lib.hid (Gr.trans F3.out f4)
  have HW4 := Lib.hid hw4
  have o4 := f4.cell k2 (fun h => h)
  clear f4 hw4 K3 B3 F3
  go_upto_region 7 with fail
  rw [← HW4.out]
  clear HW4 k0 k1 k2 k3 k4 k5 k6 k7 k8 k9 k10 k11 k12
  clear ho
  go_upto_region 8 with fail
  clear o4
  have IN : Hid ((Try.prog.info? 67).map (·.size) = some 17) := Lib.hid (by kernel_rfl)
  obtain ⟨w6, hw6⟩ : ∃ w6, w6 = w4.setCells W.heap.size 0 [.int .u16 h.id, .bool h.resp, .int .u8 h.op, .bool h.auth, .bool h.trunc, .bool h.des, .bool h.avail, .int .u8 h.zero, .int .u8 h.code, .int .u16 h.c0, .int .u16 h.c1, .int .u16 h.c2, .int .u16 h.c3, .bool false, .slice none 0 0, .int .u16 0, .int .u16 0] := ⟨_, rfl⟩
  have b6 : w6.heap[W.heap.size]? = some (.cells #[.int .u16 h.id, .bool h.resp, .int .u8 h.op, .bool h.auth, .bool h.trunc, .bool h.des, .bool h.avail, .int .u8 h.zero, .int .u8 h.code, .int .u16 h.c0, .int .u16 h.c1, .int .u16 h.c2, .int .u16 h.c3, .bool false, .slice none 0 0, .int .u16 0, .int .u16 0] 67 (0, 0)) := by rw [hw6]; exact blk_all B4.out #[.int .u16 h.id, .bool h.resp, .int .u8 h.op, .bool h.auth, .bool h.trunc, .bool h.des, .bool h.avail, .int .u8 h.zero, .int .u8 h.code, .int .u16 h.c0, .int .u16 h.c1, .int .u16 h.c2, .int .u16 h.c3, .bool false, .slice none 0 0, .int .u16 0, .int .u16 0] rfl
  have f6 : Fr (· = W.heap.size) w4 w6 := by rw [hw6]; exact fr_setCells _ _ _ _
  have TH := Lib.hid (blk_there B4.out 17 (by decide))
  have G6 := Lib.hid (gr_of_new ((new_of_gr F4.out).trans f6 (fun j h => .inl (by omega))))
  have HW6 := Lib.hid hw6
  have RG : Hid (w4.rangeAt w3.heap.size 0 [.int .u16 h.id, .bool h.resp, .int .u8 h.op, .bool h.auth, .bool h.trunc, .bool h.des, .bool h.avail, .int .u8 h.zero, .int .u8 h.code, .int .u16 h.c0, .int .u16 h.c1, .int .u16 h.c2, .int .u16 h.c3, .bool false, .slice none 0 0, .int .u16 0, .int .u16 0]) := Lib.hid (blk_range Q4.out)
  have L6 : Hid ((loadVar 67 ⟨W.heap.size, 0, none⟩).run Try.prog w6 = .ok (.agg (qCells h false none 0 0 0 0)) w6) := Lib.hid (run_loadVar_mid w6 W.heap.size 0 67 [.int .u16 h.id, .bool h.resp, .int .u8 h.op, .bool h.auth, .bool h.trunc, .bool h.des, .bool h.avail, .int .u8 h.zero, .int .u8 h.code, .int .u16 h.c0, .int .u16 h.c1, .int .u16 h.c2, .int .u16 h.c3, .bool false, .slice none 0 0, .int .u16 0, .int .u16 0] _ (blk_range b6) Try.underlying67 rfl (by rw [IN.out]; rfl))
  have A6 : Hid ((asAddr (.pointer (some ⟨W.heap.size, 0, none⟩))).run Try.prog w6 = .ok ⟨W.heap.size, 0, none⟩ w6) := Lib.hid (by simp [go_sem])
  clear hw6 f6 b6
  refine wp_region_lit ?_
  refine wpList_load_mid (by rfl) 67 _ (by rfl) w3.heap.size 0 (by rfl) [.int .u16 h.id, .bool h.resp, .int .u8 h.op, .bool h.auth, .bool h.trunc, .bool h.des, .bool h.avail, .int .u8 h.zero, .int .u8 h.code, .int .u16 h.c0, .int .u16 h.c1, .int .u16 h.c2, .int .u16 h.c3, .bool false, .slice none 0 0, .int .u16 0, .int .u16 0] _ RG.out Try.underlying67 (by rfl) (by rw [IN.out]; rfl) ?_
  refine wpList_store_mid (by rfl) 67 _ _ (by rfl) W.heap.size 0 #[.int .u16 h.id, .bool h.resp, .int .u8 h.op, .bool h.auth, .bool h.trunc, .bool h.des, .bool h.avail, .int .u8 h.zero, .int .u8 h.code, .int .u16 h.c0, .int .u16 h.c1, .int .u16 h.c2, .int .u16 h.c3, .bool false, .slice none 0 0, .int .u16 0, .int .u16 0] (by rfl) (by rfl) TH.out (by rw [IN.out]; rfl) (by rw [← Array.all_toList]; rfl) ?_
  rw [← HW6.out]
  go_wp2_with fail
  refine bodyPost_ret (v := .tuple #[.agg (qCells h false none 0 0 0 0), .int .i64 4, .int .i64 0]) (by simp [results, Try.results28, Sem.run_bind, Result.andThen_ok, L6.out, A6.out]) rfl ⟨G6.out, rfl⟩

set_option maxHeartbeats 8000000 in
set_option maxRecDepth 100000 in
theorem qParse_D (s : List UInt8) (W : World) (hs : s.length ≤ 100000) (h12 : ¬ s.length < 12) (hr : (hdRead s).resp = false) (ho : (hdRead s).op = 0) (hq : qQuest s = none) : Calls Try.prog 28 #[.string ⟨s.toArray⟩] W (QParseEnd (hdRead s, none, 1, 0) W) := by
  obtain ⟨w1, hw1⟩ : ∃ w1, w1 = W.alloc (.cells #[.int .u16 0, .bool false, .int .u8 0, .bool false, .bool false, .bool false, .bool false, .int .u8 0, .int .u8 0, .int .u16 0, .int .u16 0, .int .u16 0, .int .u16 0, .bool false, .slice none 0 0, .int .u16 0, .int .u16 0] 67) := ⟨_, rfl⟩
  have f1 : Gr W w1 := by rw [hw1]; exact (Fr.refl _ _).alloc _
  have b1 : w1.heap[W.heap.size]? = some (.cells #[.int .u16 0, .bool false, .int .u8 0, .bool false, .bool false, .bool false, .bool false, .int .u8 0, .int .u8 0, .int .u16 0, .int .u16 0, .int .u16 0, .int .u16 0, .bool false, .slice none 0 0, .int .u16 0, .int .u16 0] 67 (0, 0)) := by rw [hw1, heap_alloc_if, if_pos rfl]
  have s1 : W.heap.size < w1.heap.size := by rw [hw1]; simp
  have CD := Lib.hid (headDecode_any s (by omega) w1)
  have HW1 := Lib.hid hw1
  have F1 := Lib.hid f1
  have B1 := Lib.hid b1
  clear hw1 f1 b1
  have hfit := hdRead_fits s
  have HF := Lib.hid hfit
  have CQ : Hid (∀ q w, w.heap[q]? = some (.cells (qCells (hdRead s) false none 0 0 0 0) 67 (0, 0)) → Calls Try.prog 62 #[.pointer (some ⟨q, 0, none⟩), .string ⟨s.toArray⟩] w (QuestEnd q (hdRead s) (qQuest s) w)) := Lib.hid (fun q w h => question_any q s w (by omega) hs h)
  have CE := Lib.hid (CD.out.mono (fun e w' h => (⟨h.1, by rw [h.2, if_neg h12]⟩ : Gr w1 w' ∧ e = .returned (.tuple #[(hdRead s).val, .int .i64 0]))))
  clear hfit CD
  rw [hq] at CQ
  clear hq
  generalize hdRead s = h at *
  have b0 := HF.out.id
  have b2 := HF.out.op
  have b7 := HF.out.zero
  have b8 := HF.out.code
  have HRR := Lib.hid hr
  clear hr
  have ho' : (h.op == 0) = true := by simpa using ho
  clear ho
  go_enter Try.func28, Try.ntmps28
  go_upto_region 1 with fail
  rw [← HW1.out]
  go_wp2_with fail
  refine CE.out.mono ?_
  rintro e w2 ⟨f2, rfl⟩
  simp only [Hd.val]
  have F2 := Lib.hid (Gr.trans F1.out f2)
  have b2 : w2.heap[W.heap.size]? = some (.cells #[.int .u16 0, .bool false, .int .u8 0, .bool false, .bool false, .bool false, .bool false, .int .u8 0, .int .u8 0, .int .u16 0, .int .u16 0, .int .u16 0, .int .u16 0, .bool false, .slice none 0 0, .int .u16 0, .int .u16 0] 67 (0, 0)) := by rw [f2.block _ (by omega) (fun h => h)]; exact B1.out
  have s2 := f2.size
  obtain ⟨w3, hw3⟩ : ∃ w3, w3 = w2.alloc (.cells #[.int .u16 h.id, .bool h.resp, .int .u8 h.op, .bool h.auth, .bool h.trunc, .bool h.des, .bool h.avail, .int .u8 h.zero, .int .u8 h.code, .int .u16 h.c0, .int .u16 h.c1, .int .u16 h.c2, .int .u16 h.c3] 64) := ⟨_, rfl⟩
  have f3 : Gr w2 w3 := by rw [hw3]; exact (Fr.refl _ _).alloc _
  have s3 : w2.heap.size < w3.heap.size := by rw [hw3]; simp
  have b3 : w3.heap[W.heap.size]? = some (.cells #[.int .u16 0, .bool false, .int .u8 0, .bool false, .bool false, .bool false, .bool false, .int .u8 0, .int .u8 0, .int .u16 0, .int .u16 0, .int .u16 0, .int .u16 0, .bool false, .slice none 0 0, .int .u16 0, .int .u16 0] 67 (0, 0)) := by rw [f3.block _ (by omega) (fun h => h)]; exact b2
  have k3 : w3.heap[w2.heap.size]? = some (.cells #[.int .u16 h.id, .bool h.resp, .int .u8 h.op, .bool h.auth, .bool h.trunc, .bool h.des, .bool h.avail, .int .u8 h.zero, .int .u8 h.code, .int .u16 h.c0, .int .u16 h.c1, .int .u16 h.c2, .int .u16 h.c3] 64 (0, 0)) := by rw [hw3, heap_alloc_if, if_pos rfl]
  have F3 := Lib.hid (Gr.trans F2.out f3)
  have HW3 := Lib.hid hw3
  have B3 := Lib.hid b3
  have K3 := Lib.hid k3
  clear f2 f3 b2 hw3 CE HW1 b3 k3 F1 B1
  go_upto_region 2 with fail
  rw [← HW3.out]
  clear HW3
  have k1 : w3.cell? ⟨w2.heap.size, 1, none⟩ = some (.bool false) := by rw [Lib.cell_of_heap K3.out, ← HRR.out]; rfl
  have k0 : w3.cell? ⟨w2.heap.size, 0, none⟩ = some (.int .u16 h.id) := by rw [Lib.cell_of_heap K3.out]; rfl
  have k2 : w3.cell? ⟨w2.heap.size, 2, none⟩ = some (.int .u8 h.op) := by rw [Lib.cell_of_heap K3.out]; rfl
  have k3 : w3.cell? ⟨w2.heap.size, 3, none⟩ = some (.bool h.auth) := by rw [Lib.cell_of_heap K3.out]; rfl
  have k4 : w3.cell? ⟨w2.heap.size, 4, none⟩ = some (.bool h.trunc) := by rw [Lib.cell_of_heap K3.out]; rfl
  have k5 : w3.cell? ⟨w2.heap.size, 5, none⟩ = some (.bool h.des) := by rw [Lib.cell_of_heap K3.out]; rfl
  have k6 : w3.cell? ⟨w2.heap.size, 6, none⟩ = some (.bool h.avail) := by rw [Lib.cell_of_heap K3.out]; rfl
  have k7 : w3.cell? ⟨w2.heap.size, 7, none⟩ = some (.int .u8 h.zero) := by rw [Lib.cell_of_heap K3.out]; rfl
  have k8 : w3.cell? ⟨w2.heap.size, 8, none⟩ = some (.int .u8 h.code) := by rw [Lib.cell_of_heap K3.out]; rfl
  have k9 : w3.cell? ⟨w2.heap.size, 9, none⟩ = some (.int .u16 h.c0) := by rw [Lib.cell_of_heap K3.out]; rfl
  have k10 : w3.cell? ⟨w2.heap.size, 10, none⟩ = some (.int .u16 h.c1) := by rw [Lib.cell_of_heap K3.out]; rfl
  have k11 : w3.cell? ⟨w2.heap.size, 11, none⟩ = some (.int .u16 h.c2) := by rw [Lib.cell_of_heap K3.out]; rfl
  have k12 : w3.cell? ⟨w2.heap.size, 12, none⟩ = some (.int .u16 h.c3) := by rw [Lib.cell_of_heap K3.out]; rfl
  obtain ⟨w4, hw4⟩ : ∃ w4, w4 = w3.alloc (.cells #[.int .u16 h.id, .bool false, .int .u8 h.op, .bool h.auth, .bool h.trunc, .bool h.des, .bool h.avail, .int .u8 h.zero, .int .u8 h.code, .int .u16 h.c0, .int .u16 h.c1, .int .u16 h.c2, .int .u16 h.c3, .bool false, .slice none 0 0, .int .u16 0, .int .u16 0] 67) := ⟨_, rfl⟩
  have f4 : Gr w3 w4 := by rw [hw4]; exact (Fr.refl _ _).alloc _
  have s4 : w3.heap.size < w4.heap.size := by rw [hw4]; simp
  have B4 := Lib.hid (show w4.heap[W.heap.size]? = some (.cells #[.int .u16 0, .bool false, .int .u8 0, .bool false, .bool false, .bool false, .bool false, .int .u8 0, .int .u8 0, .int .u16 0, .int .u16 0, .int .u16 0, .int .u16 0, .bool false, .slice none 0 0, .int .u16 0, .int .u16 0] 67 (0, 0)) by rw [f4.block _ (by omega) (fun h => h)]; exact B3.out)
  have Q4 := Lib.hid (show w4.heap[w3.heap.size]? = some (.cells (qCells h false none 0 0 0 0) 67 (0, 0)) by rw [hw4, heap_alloc_if, if_pos rfl, ← HRR.out])
  have F4 := Lib.hid (Gr.trans F3.out f4)
  have HW4 := Lib.hid hw4
  have o4 := f4.cell k2 (fun h => h)
  clear f4 hw4 K3 B3 F3
  go_upto_region 7 with fail
  rw [← HW4.out]
  clear HW4 k0 k1 k2 k3 k4 k5 k6 k7 k8 k9 k10 k11 k12
  go_wp2_with fail
  refine (CQ.out _ w4 Q4.out).mono ?_
  rintro e w5 ⟨f5, h5⟩
  have B5 := Lib.hid (show w5.heap[W.heap.size]? = some (.cells #[.int .u16 0, .bool false, .int .u8 0, .bool false, .bool false, .bool false, .bool false, .int .u8 0, .int .u8 0, .int .u16 0, .int .u16 0, .int .u16 0, .int .u16 0, .bool false, .slice none 0 0, .int .u16 0, .int .u16 0] 67 (0, 0)) by rw [f5.block _ (by omega) (by omega)]; exact B4.out)
  have F5 := Lib.hid (gr_of_new ((new_of_gr F4.out).trans f5 (fun k h => .inl (by omega))))
  clear f5 B4 Q4 F4 CQ o4
  obtain ⟨rfl, q5⟩ := h5
  have Q5 := Lib.hid q5
  clear q5
  go_upto_region 10 with fail
  have IN : Hid ((Try.prog.info? 67).map (·.size) = some 17) := Lib.hid (by kernel_rfl)
  obtain ⟨w6, hw6⟩ : ∃ w6, w6 = w5.setCells W.heap.size 0 [.int .u16 h.id, .bool h.resp, .int .u8 h.op, .bool h.auth, .bool h.trunc, .bool h.des, .bool h.avail, .int .u8 h.zero, .int .u8 h.code, .int .u16 h.c0, .int .u16 h.c1, .int .u16 h.c2, .int .u16 h.c3, .bool false, .slice none 0 0, .int .u16 0, .int .u16 0] := ⟨_, rfl⟩
  have b6 : w6.heap[W.heap.size]? = some (.cells #[.int .u16 h.id, .bool h.resp, .int .u8 h.op, .bool h.auth, .bool h.trunc, .bool h.des, .bool h.avail, .int .u8 h.zero, .int .u8 h.code, .int .u16 h.c0, .int .u16 h.c1, .int .u16 h.c2, .int .u16 h.c3, .bool false, .slice none 0 0, .int .u16 0, .int .u16 0] 67 (0, 0)) := by rw [hw6]; exact blk_all B5.out #[.int .u16 h.id, .bool h.resp, .int .u8 h.op, .bool h.auth, .bool h.trunc, .bool h.des, .bool h.avail, .int .u8 h.zero, .int .u8 h.code, .int .u16 h.c0, .int .u16 h.c1, .int .u16 h.c2, .int .u16 h.c3, .bool false, .slice none 0 0, .int .u16 0, .int .u16 0] rfl
  have f6 : Fr (· = W.heap.size) w5 w6 := by rw [hw6]; exact fr_setCells _ _ _ _
  have TH := Lib.hid (blk_there B5.out 17 (by decide))
  have G6 := Lib.hid (gr_of_new ((new_of_gr F5.out).trans f6 (fun j h => .inl (by omega))))
  have HW6 := Lib.hid hw6
  have RG : Hid (w5.rangeAt w3.heap.size 0 [.int .u16 h.id, .bool h.resp, .int .u8 h.op, .bool h.auth, .bool h.trunc, .bool h.des, .bool h.avail, .int .u8 h.zero, .int .u8 h.code, .int .u16 h.c0, .int .u16 h.c1, .int .u16 h.c2, .int .u16 h.c3, .bool false, .slice none 0 0, .int .u16 0, .int .u16 0]) := Lib.hid (blk_range Q5.out)
  have L6 : Hid ((loadVar 67 ⟨W.heap.size, 0, none⟩).run Try.prog w6 = .ok (.agg (qCells h false none 0 0 0 0)) w6) := Lib.hid (run_loadVar_mid w6 W.heap.size 0 67 [.int .u16 h.id, .bool h.resp, .int .u8 h.op, .bool h.auth, .bool h.trunc, .bool h.des, .bool h.avail, .int .u8 h.zero, .int .u8 h.code, .int .u16 h.c0, .int .u16 h.c1, .int .u16 h.c2, .int .u16 h.c3, .bool false, .slice none 0 0, .int .u16 0, .int .u16 0] _ (blk_range b6) Try.underlying67 rfl (by rw [IN.out]; rfl))
  have A6 : Hid ((asAddr (.pointer (some ⟨W.heap.size, 0, none⟩))).run Try.prog w6 = .ok ⟨W.heap.size, 0, none⟩ w6) := Lib.hid (by simp [go_sem])
  clear hw6 f6 b6
  refine wp_region_lit ?_
  refine wpList_load_mid (by rfl) 67 _ (by rfl) w3.heap.size 0 (by rfl) [.int .u16 h.id, .bool h.resp, .int .u8 h.op, .bool h.auth, .bool h.trunc, .bool h.des, .bool h.avail, .int .u8 h.zero, .int .u8 h.code, .int .u16 h.c0, .int .u16 h.c1, .int .u16 h.c2, .int .u16 h.c3, .bool false, .slice none 0 0, .int .u16 0, .int .u16 0] _ RG.out Try.underlying67 (by rfl) (by rw [IN.out]; rfl) ?_
  refine wpList_store_mid (by rfl) 67 _ _ (by rfl) W.heap.size 0 #[.int .u16 h.id, .bool h.resp, .int .u8 h.op, .bool h.auth, .bool h.trunc, .bool h.des, .bool h.avail, .int .u8 h.zero, .int .u8 h.code, .int .u16 h.c0, .int .u16 h.c1, .int .u16 h.c2, .int .u16 h.c3, .bool false, .slice none 0 0, .int .u16 0, .int .u16 0] (by rfl) (by rfl) TH.out (by rw [IN.out]; rfl) (by rw [← Array.all_toList]; rfl) ?_
  rw [← HW6.out]
  go_wp2_with fail
  refine bodyPost_ret (v := .tuple #[.agg (qCells h false none 0 0 0 0), .int .i64 1, .int .i64 0]) (by simp [results, Try.results28, Sem.run_bind, Result.andThen_ok, L6.out, A6.out]) rfl ⟨G6.out, rfl⟩

set_option maxHeartbeats 8000000 in
set_option maxRecDepth 100000 in
theorem qParse_E (s : List UInt8) (W : World) (hs : s.length ≤ 100000) (l : List Lbl) (tt cc : Int) (h12 : ¬ s.length < 12) (hr : (hdRead s).resp = false) (ho : (hdRead s).op = 0) (hq : qQuest s = some (l, tt, cc)) : Calls Try.prog 28 #[.string ⟨s.toArray⟩] W (QParseEnd (hdRead s, some (l, tt, cc), if (tt = 1 ∨ tt = 33) ∧ cc = 1 then 0 else 4, 0) W) := by
  obtain ⟨w1, hw1⟩ : ∃ w1, w1 = W.alloc (.cells #[.int .u16 0, .bool false, .int .u8 0, .bool false, .bool false, .bool false, .bool false, .int .u8 0, .int .u8 0, .int .u16 0, .int .u16 0, .int .u16 0, .int .u16 0, .bool false, .slice none 0 0, .int .u16 0, .int .u16 0] 67) := ⟨_, rfl⟩
  have f1 : Gr W w1 := by rw [hw1]; exact (Fr.refl _ _).alloc _
  have b1 : w1.heap[W.heap.size]? = some (.cells #[.int .u16 0, .bool false, .int .u8 0, .bool false, .bool false, .bool false, .bool false, .int .u8 0, .int .u8 0, .int .u16 0, .int .u16 0, .int .u16 0, .int .u16 0, .bool false, .slice none 0 0, .int .u16 0, .int .u16 0] 67 (0, 0)) := by rw [hw1, heap_alloc_if, if_pos rfl]
  have s1 : W.heap.size < w1.heap.size := by rw [hw1]; simp
  have CD := Lib.hid (headDecode_any s (by omega) w1)
  have HW1 := Lib.hid hw1
  have F1 := Lib.hid f1
  have B1 := Lib.hid b1
  clear hw1 f1 b1
  generalize hcd : (if (tt = 1 ∨ tt = 33) ∧ cc = 1 then (0 : Int) else 4) = code
  have HCD := Lib.hid hcd
  clear hcd
  have hfit := hdRead_fits s
  have HF := Lib.hid hfit
  have CQ : Hid (∀ q w, w.heap[q]? = some (.cells (qCells (hdRead s) false none 0 0 0 0) 67 (0, 0)) → Calls Try.prog 62 #[.pointer (some ⟨q, 0, none⟩), .string ⟨s.toArray⟩] w (QuestEnd q (hdRead s) (qQuest s) w)) := Lib.hid (fun q w h => question_any q s w (by omega) hs h)
  have CE := Lib.hid (CD.out.mono (fun e w' h => (⟨h.1, by rw [h.2, if_neg h12]⟩ : Gr w1 w' ∧ e = .returned (.tuple #[(hdRead s).val, .int .i64 0]))))
  clear hfit CD
  rw [hq] at CQ
  clear hq
  generalize hdRead s = h at *
  have b0 := HF.out.id
  have b2 := HF.out.op
  have b7 := HF.out.zero
  have b8 := HF.out.code
  have HRR := Lib.hid hr
  clear hr
  have ho' : (h.op == 0) = true := by simpa using ho
  clear ho
  go_enter Try.func28, Try.ntmps28
  go_upto_region 1 with fail
  rw [← HW1.out]
  go_wp2_with fail
  refine CE.out.mono ?_
  rintro e w2 ⟨f2, rfl⟩
  simp only [Hd.val]
  have F2 := Lib.hid (Gr.trans F1.out f2)
  have b2 : w2.heap[W.heap.size]? = some (.cells #[.int .u16 0, .bool false, .int .u8 0, .bool false, .bool false, .bool false, .bool false, .int .u8 0, .int .u8 0, .int .u16 0, .int .u16 0, .int .u16 0, .int .u16 0, .bool false, .slice none 0 0, .int .u16 0, .int .u16 0] 67 (0, 0)) := by rw [f2.block _ (by omega) (fun h => h)]; exact B1.out
  have s2 := f2.size
  obtain ⟨w3, hw3⟩ : ∃ w3, w3 = w2.alloc (.cells #[.int .u16 h.id, .bool h.resp, .int .u8 h.op, .bool h.auth, .bool h.trunc, .bool h.des, .bool h.avail, .int .u8 h.zero, .int .u8 h.code, .int .u16 h.c0, .int .u16 h.c1, .int .u16 h.c2, .int .u16 h.c3] 64) := ⟨_, rfl⟩
  have f3 : Gr w2 w3 := by rw [hw3]; exact (Fr.refl _ _).alloc _
  have s3 : w2.heap.size < w3.heap.size := by rw [hw3]; simp
  have b3 : w3.heap[W.heap.size]? = some (.cells #[.int .u16 0, .bool false, .int .u8 0, .bool false, .bool false, .bool false, .bool false, .int .u8 0, .int .u8 0, .int .u16 0, .int .u16 0, .int .u16 0, .int .u16 0, .bool false, .slice none 0 0, .int .u16 0, .int .u16 0] 67 (0, 0)) := by rw [f3.block _ (by omega) (fun h => h)]; exact b2
  have k3 : w3.heap[w2.heap.size]? = some (.cells #[.int .u16 h.id, .bool h.resp, .int .u8 h.op, .bool h.auth, .bool h.trunc, .bool h.des, .bool h.avail, .int .u8 h.zero, .int .u8 h.code, .int .u16 h.c0, .int .u16 h.c1, .int .u16 h.c2, .int .u16 h.c3] 64 (0, 0)) := by rw [hw3, heap_alloc_if, if_pos rfl]
  have F3 := Lib.hid (Gr.trans F2.out f3)
  have HW3 := Lib.hid hw3
  have B3 := Lib.hid b3
  have K3 := Lib.hid k3
  clear f2 f3 b2 hw3 CE HW1 b3 k3 F1 B1
  go_upto_region 2 with fail
  rw [← HW3.out]
  clear HW3
  have k1 : w3.cell? ⟨w2.heap.size, 1, none⟩ = some (.bool false) := by rw [Lib.cell_of_heap K3.out, ← HRR.out]; rfl
  have k0 : w3.cell? ⟨w2.heap.size, 0, none⟩ = some (.int .u16 h.id) := by rw [Lib.cell_of_heap K3.out]; rfl
  have k2 : w3.cell? ⟨w2.heap.size, 2, none⟩ = some (.int .u8 h.op) := by rw [Lib.cell_of_heap K3.out]; rfl
  have k3 : w3.cell? ⟨w2.heap.size, 3, none⟩ = some (.bool h.auth) := by rw [Lib.cell_of_heap K3.out]; rfl
  have k4 : w3.cell? ⟨w2.heap.size, 4, none⟩ = some (.bool h.trunc) := by rw [Lib.cell_of_heap K3.out]; rfl
  have k5 : w3.cell? ⟨w2.heap.size, 5, none⟩ = some (.bool h.des) := by rw [Lib.cell_of_heap K3.out]; rfl
  have k6 : w3.cell? ⟨w2.heap.size, 6, none⟩ = some (.bool h.avail) := by rw [Lib.cell_of_heap K3.out]; rfl
  have k7 : w3.cell? ⟨w2.heap.size, 7, none⟩ = some (.int .u8 h.zero) := by rw [Lib.cell_of_heap K3.out]; rfl
  have k8 : w3.cell? ⟨w2.heap.size, 8, none⟩ = some (.int .u8 h.code) := by rw [Lib.cell_of_heap K3.out]; rfl
  have k9 : w3.cell? ⟨w2.heap.size, 9, none⟩ = some (.int .u16 h.c0) := by rw [Lib.cell_of_heap K3.out]; rfl
  have k10 : w3.cell? ⟨w2.heap.size, 10, none⟩ = some (.int .u16 h.c1) := by rw [Lib.cell_of_heap K3.out]; rfl
  have k11 : w3.cell? ⟨w2.heap.size, 11, none⟩ = some (.int .u16 h.c2) := by rw [Lib.cell_of_heap K3.out]; rfl
  have k12 : w3.cell? ⟨w2.heap.size, 12, none⟩ = some (.int .u16 h.c3) := by rw [Lib.cell_of_heap K3.out]; rfl
  obtain ⟨w4, hw4⟩ : ∃ w4, w4 = w3.alloc (.cells #[.int .u16 h.id, .bool false, .int .u8 h.op, .bool h.auth, .bool h.trunc, .bool h.des, .bool h.avail, .int .u8 h.zero, .int .u8 h.code, .int .u16 h.c0, .int .u16 h.c1, .int .u16 h.c2, .int .u16 h.c3, .bool false, .slice none 0 0, .int .u16 0, .int .u16 0] 67) := ⟨_, rfl⟩
  have f4 : Gr w3 w4 := by rw [hw4]; exact (Fr.refl _ _).alloc _
  have s4 : w3.heap.size < w4.heap.size := by rw [hw4]; simp
  have B4 := Lib.hid (show w4.heap[W.heap.size]? = some (.cells #[.int .u16 0, .bool false, .int .u8 0, .bool false, .bool false, .bool false, .bool false, .int .u8 0, .int .u8 0, .int .u16 0, .int .u16 0, .int .u16 0, .int .u16 0, .bool false, .slice none 0 0, .int .u16 0, .int .u16 0] 67 (0, 0)) by rw [f4.block _ (by omega) (fun h => h)]; exact B3.out)
  have Q4 := Lib.hid (show w4.heap[w3.heap.size]? = some (.cells (qCells h false none 0 0 0 0) 67 (0, 0)) by rw [hw4, heap_alloc_if, if_pos rfl, ← HRR.out])
  have F4 := Lib.hid (Gr.trans F3.out f4)
  have HW4 := Lib.hid hw4
  have o4 := f4.cell k2 (fun h => h)
  clear f4 hw4 K3 B3 F3
  go_upto_region 7 with fail
  rw [← HW4.out]
  clear HW4 k0 k1 k2 k3 k4 k5 k6 k7 k8 k9 k10 k11 k12
  go_wp2_with fail
  refine (CQ.out _ w4 Q4.out).mono ?_
  rintro e w5 ⟨f5, h5⟩
  have B5 := Lib.hid (show w5.heap[W.heap.size]? = some (.cells #[.int .u16 0, .bool false, .int .u8 0, .bool false, .bool false, .bool false, .bool false, .int .u8 0, .int .u8 0, .int .u16 0, .int .u16 0, .int .u16 0, .int .u16 0, .bool false, .slice none 0 0, .int .u16 0, .int .u16 0] 67 (0, 0)) by rw [f5.block _ (by omega) (by omega)]; exact B4.out)
  have F5 := Lib.hid (gr_of_new ((new_of_gr F4.out).trans f5 (fun k h => .inl (by omega))))
  clear f5 B4 Q4 F4 CQ o4
  obtain ⟨rfl, v, o5, a, cap, rfl, q5⟩ := h5
  have Q5 := Lib.hid q5
  have O5 := Lib.hid (own_base o5 (show W.heap.size + 1 ≤ w4.heap.size by omega))
  clear o5 q5
  have q15 : w5.cell? ⟨w3.heap.size, 15, none⟩ = some (.int .u16 tt) := by rw [Lib.cell_of_heap Q5.out]; rfl
  have q16 : w5.cell? ⟨w3.heap.size, 16, none⟩ = some (.int .u16 cc) := by rw [Lib.cell_of_heap Q5.out]; rfl
  go_upto_region 11 with fail
  go_cut [34] from 34 to 48 (fun cv wx => ∃ b : Bool, cv = .bool b ∧ code = (if b then 4 else 0) ∧ w5 = wx)
  case first =>
    by_cases c1 : cc = 1
    · have e1 : (cc == 1) = true := by simpa using c1
      have e1n : (cc != 1) = false := by simp [bne, e1]
      by_cases t1 : tt = 1
      · have e2 : (tt == 1) = true := by simpa using t1
        have e2n : (tt != 1) = false := by simp [bne, e2]
        have HC : Hid (code = 0) := Lib.hid (by rw [← HCD.out]; exact if_pos ⟨.inl t1, c1⟩)
        clear c1 t1
        go_wp2_with fail
        go_meet
        exact ⟨false, rfl, HC.out, rfl⟩
      · have e2 : (tt == 1) = false := by simpa using t1
        have e2n : (tt != 1) = true := by simp [bne, e2]
        by_cases t33 : tt = 33
        · have e3 : (tt == 33) = true := by simpa using t33
          have e3n : (tt != 33) = false := by simp [bne, e3]
          have HC : Hid (code = 0) := Lib.hid (by rw [← HCD.out]; exact if_pos ⟨.inr t33, c1⟩)
          clear c1 t1 t33
          go_wp2_with fail
          go_meet
          exact ⟨false, rfl, HC.out, rfl⟩
        · have e3 : (tt == 33) = false := by simpa using t33
          have e3n : (tt != 33) = true := by simp [bne, e3]
          have HC : Hid (code = 4) := Lib.hid (by rw [← HCD.out]; exact if_neg (fun h => by rcases h.1 with h | h; exact t1 h; exact t33 h))
          clear c1 t1 t33
          go_wp2_with fail
          go_meet
          exact ⟨true, rfl, HC.out, rfl⟩
    · have e1 : (cc == 1) = false := by simpa using c1
      have e1n : (cc != 1) = true := by simp [bne, e1]
      have HC : Hid (code = 4) := Lib.hid (by rw [← HCD.out]; exact if_neg (fun h => c1 h.2))
      clear c1
      by_cases t1 : tt = 1
      · have e2 : (tt == 1) = true := by simpa using t1
        have e2n : (tt != 1) = false := by simp [bne, e2]
        clear t1
        go_wp2_with fail
        go_meet
        exact ⟨true, rfl, HC.out, rfl⟩
      · have e2 : (tt == 1) = false := by simpa using t1
        have e2n : (tt != 1) = true := by simp [bne, e2]
        clear t1
        by_cases t33 : tt = 33
        · have e3 : (tt == 33) = true := by simpa using t33
          have e3n : (tt != 33) = false := by simp [bne, e3]
          clear t33
          go_wp2_with fail
          go_meet
          exact ⟨true, rfl, HC.out, rfl⟩
        · have e3 : (tt == 33) = false := by simpa using t33
          have e3n : (tt != 33) = true := by simp [bne, e3]
          clear t33
          go_wp2_with fail
          go_meet
          exact ⟨true, rfl, HC.out, rfl⟩
  case rest =>
    obtain ⟨b, rfl, hcode, rfl⟩ := hcut
    have HC := Lib.hid hcode
    clear hcode q15 q16
    cases b
    · have HC2 : Hid (code = 0) := Lib.hid HC.out
      go_upto_region 13 with fail
      have IN : Hid ((Try.prog.info? 67).map (·.size) = some 17) := Lib.hid (by kernel_rfl)
      obtain ⟨w6, hw6⟩ : ∃ w6, w6 = w5.setCells W.heap.size 0 [.int .u16 h.id, .bool h.resp, .int .u8 h.op, .bool h.auth, .bool h.trunc, .bool h.des, .bool h.avail, .int .u8 h.zero, .int .u8 h.code, .int .u16 h.c0, .int .u16 h.c1, .int .u16 h.c2, .int .u16 h.c3, .bool true, .slice a l.length cap, .int .u16 tt, .int .u16 cc] := ⟨_, rfl⟩
      have b6 : w6.heap[W.heap.size]? = some (.cells #[.int .u16 h.id, .bool h.resp, .int .u8 h.op, .bool h.auth, .bool h.trunc, .bool h.des, .bool h.avail, .int .u8 h.zero, .int .u8 h.code, .int .u16 h.c0, .int .u16 h.c1, .int .u16 h.c2, .int .u16 h.c3, .bool true, .slice a l.length cap, .int .u16 tt, .int .u16 cc] 67 (0, 0)) := by rw [hw6]; exact blk_all B5.out #[.int .u16 h.id, .bool h.resp, .int .u8 h.op, .bool h.auth, .bool h.trunc, .bool h.des, .bool h.avail, .int .u8 h.zero, .int .u8 h.code, .int .u16 h.c0, .int .u16 h.c1, .int .u16 h.c2, .int .u16 h.c3, .bool true, .slice a l.length cap, .int .u16 tt, .int .u16 cc] rfl
      have f6 : Fr (· = W.heap.size) w5 w6 := by rw [hw6]; exact fr_setCells _ _ _ _
      have TH := Lib.hid (blk_there B5.out 17 (by decide))
      have G6 := Lib.hid (gr_of_new ((new_of_gr F5.out).trans f6 (fun j h => .inl (by omega))))
      have HW6 := Lib.hid hw6
      have RG : Hid (w5.rangeAt w3.heap.size 0 [.int .u16 h.id, .bool h.resp, .int .u8 h.op, .bool h.auth, .bool h.trunc, .bool h.des, .bool h.avail, .int .u8 h.zero, .int .u8 h.code, .int .u16 h.c0, .int .u16 h.c1, .int .u16 h.c2, .int .u16 h.c3, .bool true, .slice a l.length cap, .int .u16 tt, .int .u16 cc]) := Lib.hid (blk_range Q5.out)
      have O6 := Lib.hid (own_fr O5.out f6 (fun j hj hs => by have h1 := (O5.out.lt j hj).1; omega))
      have L6 : Hid ((loadVar 67 ⟨W.heap.size, 0, none⟩).run Try.prog w6 = .ok (.agg (qCells h true a l.length cap tt cc)) w6) := Lib.hid (run_loadVar_mid w6 W.heap.size 0 67 [.int .u16 h.id, .bool h.resp, .int .u8 h.op, .bool h.auth, .bool h.trunc, .bool h.des, .bool h.avail, .int .u8 h.zero, .int .u8 h.code, .int .u16 h.c0, .int .u16 h.c1, .int .u16 h.c2, .int .u16 h.c3, .bool true, .slice a l.length cap, .int .u16 tt, .int .u16 cc] _ (blk_range b6) Try.underlying67 rfl (by rw [IN.out]; rfl))
      have A6 : Hid ((asAddr (.pointer (some ⟨W.heap.size, 0, none⟩))).run Try.prog w6 = .ok ⟨W.heap.size, 0, none⟩ w6) := Lib.hid (by simp [go_sem])
      clear hw6 f6 b6
      refine wp_region_lit ?_
      refine wpList_load_mid (by rfl) 67 _ (by rfl) w3.heap.size 0 (by rfl) [.int .u16 h.id, .bool h.resp, .int .u8 h.op, .bool h.auth, .bool h.trunc, .bool h.des, .bool h.avail, .int .u8 h.zero, .int .u8 h.code, .int .u16 h.c0, .int .u16 h.c1, .int .u16 h.c2, .int .u16 h.c3, .bool true, .slice a l.length cap, .int .u16 tt, .int .u16 cc] _ RG.out Try.underlying67 (by rfl) (by rw [IN.out]; rfl) ?_
      refine wpList_store_mid (by rfl) 67 _ _ (by rfl) W.heap.size 0 #[.int .u16 h.id, .bool h.resp, .int .u8 h.op, .bool h.auth, .bool h.trunc, .bool h.des, .bool h.avail, .int .u8 h.zero, .int .u8 h.code, .int .u16 h.c0, .int .u16 h.c1, .int .u16 h.c2, .int .u16 h.c3, .bool true, .slice a l.length cap, .int .u16 tt, .int .u16 cc] (by rfl) (by rfl) TH.out (by rw [IN.out]; rfl) (by rw [← Array.all_toList]; rfl) ?_
      rw [← HW6.out]
      go_wp2_with fail
      refine bodyPost_ret (v := .tuple #[.agg (qCells h true a l.length cap tt cc), .int .i64 0, .int .i64 0]) (by simp [results, Try.results28, Sem.run_bind, Result.andThen_ok, L6.out, A6.out]) rfl ⟨G6.out, .slice a l.length cap, own_base O6.out (Nat.le_succ _), a, cap, rfl, by rw [HC2.out]⟩
    · have HC2 : Hid (code = 4) := Lib.hid HC.out
      go_upto_region 12 with fail
      have IN : Hid ((Try.prog.info? 67).map (·.size) = some 17) := Lib.hid (by kernel_rfl)
      obtain ⟨w6, hw6⟩ : ∃ w6, w6 = w5.setCells W.heap.size 0 [.int .u16 h.id, .bool h.resp, .int .u8 h.op, .bool h.auth, .bool h.trunc, .bool h.des, .bool h.avail, .int .u8 h.zero, .int .u8 h.code, .int .u16 h.c0, .int .u16 h.c1, .int .u16 h.c2, .int .u16 h.c3, .bool true, .slice a l.length cap, .int .u16 tt, .int .u16 cc] := ⟨_, rfl⟩
      have b6 : w6.heap[W.heap.size]? = some (.cells #[.int .u16 h.id, .bool h.resp, .int .u8 h.op, .bool h.auth, .bool h.trunc, .bool h.des, .bool h.avail, .int .u8 h.zero, .int .u8 h.code, .int .u16 h.c0, .int .u16 h.c1, .int .u16 h.c2, .int .u16 h.c3, .bool true, .slice a l.length cap, .int .u16 tt, .int .u16 cc] 67 (0, 0)) := by rw [hw6]; exact blk_all B5.out #[.int .u16 h.id, .bool h.resp, .int .u8 h.op, .bool h.auth, .bool h.trunc, .bool h.des, .bool h.avail, .int .u8 h.zero, .int .u8 h.code, .int .u16 h.c0, .int .u16 h.c1, .int .u16 h.c2, .int .u16 h.c3, .bool true, .slice a l.length cap, .int .u16 tt, .int .u16 cc] rfl
      have f6 : Fr (· = W.heap.size) w5 w6 := by rw [hw6]; exact fr_setCells _ _ _ _
      have TH := Lib.hid (blk_there B5.out 17 (by decide))
      have G6 := Lib.hid (gr_of_new ((new_of_gr F5.out).trans f6 (fun j h => .inl (by omega))))
      have HW6 := Lib.hid hw6
      have RG : Hid (w5.rangeAt w3.heap.size 0 [.int .u16 h.id, .bool h.resp, .int .u8 h.op, .bool h.auth, .bool h.trunc, .bool h.des, .bool h.avail, .int .u8 h.zero, .int .u8 h.code, .int .u16 h.c0, .int .u16 h.c1, .int .u16 h.c2, .int .u16 h.c3, .bool true, .slice a l.length cap, .int .u16 tt, .int .u16 cc]) := Lib.hid (blk_range Q5.out)
      have O6 := Lib.hid (own_fr O5.out f6 (fun j hj hs => by have h1 := (O5.out.lt j hj).1; omega))
      have L6 : Hid ((loadVar 67 ⟨W.heap.size, 0, none⟩).run Try.prog w6 = .ok (.agg (qCells h true a l.length cap tt cc)) w6) := Lib.hid (run_loadVar_mid w6 W.heap.size 0 67 [.int .u16 h.id, .bool h.resp, .int .u8 h.op, .bool h.auth, .bool h.trunc, .bool h.des, .bool h.avail, .int .u8 h.zero, .int .u8 h.code, .int .u16 h.c0, .int .u16 h.c1, .int .u16 h.c2, .int .u16 h.c3, .bool true, .slice a l.length cap, .int .u16 tt, .int .u16 cc] _ (blk_range b6) Try.underlying67 rfl (by rw [IN.out]; rfl))
      have A6 : Hid ((asAddr (.pointer (some ⟨W.heap.size, 0, none⟩))).run Try.prog w6 = .ok ⟨W.heap.size, 0, none⟩ w6) := Lib.hid (by simp [go_sem])
      clear hw6 f6 b6
      refine wp_region_lit ?_
      refine wpList_load_mid (by rfl) 67 _ (by rfl) w3.heap.size 0 (by rfl) [.int .u16 h.id, .bool h.resp, .int .u8 h.op, .bool h.auth, .bool h.trunc, .bool h.des, .bool h.avail, .int .u8 h.zero, .int .u8 h.code, .int .u16 h.c0, .int .u16 h.c1, .int .u16 h.c2, .int .u16 h.c3, .bool true, .slice a l.length cap, .int .u16 tt, .int .u16 cc] _ RG.out Try.underlying67 (by rfl) (by rw [IN.out]; rfl) ?_
      refine wpList_store_mid (by rfl) 67 _ _ (by rfl) W.heap.size 0 #[.int .u16 h.id, .bool h.resp, .int .u8 h.op, .bool h.auth, .bool h.trunc, .bool h.des, .bool h.avail, .int .u8 h.zero, .int .u8 h.code, .int .u16 h.c0, .int .u16 h.c1, .int .u16 h.c2, .int .u16 h.c3, .bool true, .slice a l.length cap, .int .u16 tt, .int .u16 cc] (by rfl) (by rfl) TH.out (by rw [IN.out]; rfl) (by rw [← Array.all_toList]; rfl) ?_
      rw [← HW6.out]
      go_wp2_with fail
      refine bodyPost_ret (v := .tuple #[.agg (qCells h true a l.length cap tt cc), .int .i64 4, .int .i64 0]) (by simp [results, Try.results28, Sem.run_bind, Result.andThen_ok, L6.out, A6.out]) rfl ⟨G6.out, .slice a l.length cap, own_base O6.out (Nat.le_succ _), a, cap, rfl, by rw [HC2.out]⟩

theorem qParse_any (s : List UInt8) (W : World) (hs : s.length ≤ 100000) : Calls Try.prog 28 #[.string ⟨s.toArray⟩] W (QParseEnd (qOut s) W) := by
  unfold qOut
  by_cases h12 : s.length < 12
  · rw [if_pos h12]; exact qParse_A s W hs h12
  rw [if_neg h12]
  by_cases hr : (hdRead s).resp = true
  · rw [if_pos hr]; exact qParse_B s W hs h12 hr
  rw [if_neg hr]
  have hr := eq_false_of_ne_true hr
  by_cases ho : (hdRead s).op ≠ 0
  · rw [if_pos ho]; exact qParse_C s W hs h12 hr ho
  rw [if_neg ho]
  have ho : (hdRead s).op = 0 := by omega
  cases hq : qQuest s with
  | none => exact qParse_D s W hs h12 hr ho hq
  | some y =>
    obtain ⟨l, tt, cc⟩ := y
    exact qParse_E s W hs l tt cc h12 hr ho hq
end Go.Proofs.Ytkclgemkeifbaaa
