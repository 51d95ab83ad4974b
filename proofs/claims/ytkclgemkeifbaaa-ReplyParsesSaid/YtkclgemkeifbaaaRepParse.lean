/-
  Package reply: Parse (printed by gen_repparse.py).
-/
import Derived.Test.YtkclgemkeifbaaaRepReadF
import Derived.Test.YtkclgemkeifbaaaHeadP
import Derived.Deep.Quiet
namespace Go.Proofs.Ytkclgemkeifbaaa
open Go.RowKit Go.Proofs

theorem wpQuiet_load_mid {ops : Array Oper} {C : World → Prop} {Q : Act → Prop} {rest : List Oper} {o : Oper} {a : Act} (hg : o.guard = none) (ty : TypeId) (x : Operand) (ho : o.op = .load ty x)
    (b off : Nat) (hx : a.eval x = .pointer (some ⟨b, off, none⟩)) (cs : List Value) (d : TypeDesc) (hC : ∀ w, C w → w.rangeAt b off cs)
    (hu : Try.prog.underlying ty = some d) (hd : d.isRow = true) (hi : (Try.prog.info? ty).map (·.size) = some cs.length)
    (h : wpQuiet Try.prog ops C Q rest (a.put o.dst (.agg cs.toArray))) : wpQuiet Try.prog ops C Q (o :: rest) a := by
  have hw : Region.wanted o (yielded ops a.tmps) = true := by unfold Region.wanted; rw [hg]
  unfold wpQuiet
  rw [if_pos hw]
  refine ⟨.agg cs.toArray, fun w hw' => ?_, h⟩
  have h1 := run_loadVar_mid (P := Try.prog) w b off ty cs d (hC w hw') hu hd hi
  have h2 : (execOp a.eval o).run Try.prog w = .ok (.value (.agg cs.toArray)) w := by
    unfold execOp
    simp only [ho, hx, Instr.loadAt, Instr.sureAddr, Sem.run_bind, Sem.run_pure, Result.andThen_ok, h1]
  unfold Oper.quietAt Oper.quietUpon
  rw [h2]
  exact ⟨rfl, rfl⟩
theorem wpList_qzero {ops : Array Oper} {rest : List Oper} {dst : Option Tmp} {ty : TypeId} {pos : String} {after : Array Edge} {A : Act} {w : World} {Q : Exit → Act → World → Prop}
    (h : wpList Try.prog ops Q rest (A.put dst (.agg #[.int .u16 0, .bool false, .int .u8 0, .bool false, .bool false, .bool false, .bool false, .int .u8 0, .int .u8 0, .int .u16 0, .int .u16 0, .int .u16 0, .int .u16 0, .bool false, .slice none 0 0, .int .u16 0, .int .u16 0])) w) :
    wpList Try.prog ops Q (⟨dst, .build 67 #[], ty, pos, after, none⟩ :: rest) A w := by
  refine wpList_plain rfl fun K hK => ?_
  unfold Oper.wp
  have e : (execOp A.eval ⟨dst, .build 67 #[], ty, pos, after, none⟩).run Try.prog w = .ok (.value (.agg #[.int .u16 0, .bool false, .int .u8 0, .bool false, .bool false, .bool false, .bool false, .int .u8 0, .int .u8 0, .int .u16 0, .int .u16 0, .int .u16 0, .int .u16 0, .bool false, .slice none 0 0, .int .u16 0, .int .u16 0])) w := by simp [go_sem]
  rw [e]
  exact hK _ _ h
theorem exec_bld1 (ρ : Operand → Value) (w : World) (dst : Option Tmp) (ty : TypeId) (pos : String) (after : Array Edge) (x y z : Operand) (i j : Int) (b : Bool) (hx : ρ x = .int .u16 i) (hy : ρ y = .int .u8 j) (hz : ρ z = .bool b) :
    (execOp ρ ⟨dst, .build 64 #[(0, x), (2, y), (5, z)], ty, pos, after, none⟩).run Try.prog w = .ok (.value (.agg #[.int .u16 i, .bool false, .int .u8 j, .bool false, .bool false, .bool b, .bool false, .int .u8 0, .int .u8 0, .int .u16 0, .int .u16 0, .int .u16 0, .int .u16 0])) w := by simp [go_sem, hx, hy, hz]
theorem exec_bld2 (ρ : Operand → Value) (w : World) (dst : Option Tmp) (ty : TypeId) (pos : String) (after : Array Edge) (x : Operand) (c0 c1 c2 c3 c4 c5 c6 c7 c8 c9 c10 c11 c12 : Value) (hx : ρ x = .agg #[c0, c1, c2, c3, c4, c5, c6, c7, c8, c9, c10, c11, c12]) :
    (execOp ρ ⟨dst, .build 67 #[(0, x)], ty, pos, after, none⟩).run Try.prog w = .ok (.value (.agg #[c0, c1, c2, c3, c4, c5, c6, c7, c8, c9, c10, c11, c12, .bool false, .slice none 0 0, .int .u16 0, .int .u16 0])) w := by simp [go_sem, hx]
theorem wpList_bld1 {ops : Array Oper} {rest : List Oper} {dst : Option Tmp} {ty : TypeId} {pos : String} {after : Array Edge} {A : Act} {w : World} {Q : Exit → Act → World → Prop} {x y z : Operand} {i j : Int} {b : Bool}
    (hx : A.eval x = .int .u16 i) (hy : A.eval y = .int .u8 j) (hz : A.eval z = .bool b)
    (h : wpList Try.prog ops Q rest (A.put dst (.agg #[.int .u16 i, .bool false, .int .u8 j, .bool false, .bool false, .bool b, .bool false, .int .u8 0, .int .u8 0, .int .u16 0, .int .u16 0, .int .u16 0, .int .u16 0])) w) :
    wpList Try.prog ops Q (⟨dst, .build 64 #[(0, x), (2, y), (5, z)], ty, pos, after, none⟩ :: rest) A w := by
  refine wpList_plain rfl fun K hK => ?_
  unfold Oper.wp
  rw [exec_bld1 A.eval w dst ty pos after x y z i j b hx hy hz]
  exact hK _ _ h
theorem wpList_bld2 {ops : Array Oper} {rest : List Oper} {dst : Option Tmp} {ty : TypeId} {pos : String} {after : Array Edge} {A : Act} {w : World} {Q : Exit → Act → World → Prop} {x : Operand} {c0 c1 c2 c3 c4 c5 c6 c7 c8 c9 c10 c11 c12 : Value}
    (hx : A.eval x = .agg #[c0, c1, c2, c3, c4, c5, c6, c7, c8, c9, c10, c11, c12])
    (h : wpList Try.prog ops Q rest (A.put dst (.agg #[c0, c1, c2, c3, c4, c5, c6, c7, c8, c9, c10, c11, c12, .bool false, .slice none 0 0, .int .u16 0, .int .u16 0])) w) :
    wpList Try.prog ops Q (⟨dst, .build 67 #[(0, x)], ty, pos, after, none⟩ :: rest) A w := by
  refine wpList_plain rfl fun K hK => ?_
  unfold Oper.wp
  rw [exec_bld2 A.eval w dst ty pos after x _ _ _ _ _ _ _ _ _ _ _ _ _ hx]
  exact hK _ _ h
theorem Try.zeroHead : (Try.prog.info? 64).map (fun i => (i.zero, i.size)) = some (some (.agg #[.int .u16 0, .bool false, .int .u8 0, .bool false, .bool false, .bool false, .bool false, .int .u8 0, .int .u8 0, .int .u16 0, .int .u16 0, .int .u16 0, .int .u16 0]), 13) := by kernel_rfl
theorem Try.zeroQuery : (Try.prog.info? 67).map (fun i => (i.zero, i.size)) = some (some (.agg #[.int .u16 0, .bool false, .int .u8 0, .bool false, .bool false, .bool false, .bool false, .int .u8 0, .int .u8 0, .int .u16 0, .int .u16 0, .int .u16 0, .int .u16 0, .bool false, .slice none 0 0, .int .u16 0, .int .u16 0]), 17) := by kernel_rfl
theorem Try.infoHead13 : (Try.prog.info? 64).map (·.size) = some 13 := by kernel_rfl
theorem info_two {t : TypeId} {z : Option Value} {n : Nat} (h : (Try.prog.info? t).map (fun i => (i.zero, i.size)) = some (z, n)) : ∃ i, Try.prog.info? t = some i ∧ i.zero = z ∧ i.size = n := by
  obtain ⟨i, hi, e⟩ := Option.map_eq_some_iff.1 h
  simp only [Prod.mk.injEq] at e
  exact ⟨i, hi, e.1, e.2⟩

def prsHd (h : Hd) : Hd := { hdZero with id := h.id, op := h.op, des := h.des }
def prsD (s : List UInt8) : RdQ := rdReply s (hdRead s).c0 (hdRead s).c1
def prsB (s : List UInt8) : List UInt8 × Nat × Int := bldOut (hdAsked (prsHd (hdRead s)) (prsD s).asked) (prsD s).asked (prsD s).name (prsD s).t (prsD s).c (hdRead s).code (prsD s).l
def prsOk (s : List UInt8) : Bool := (prsD s).e == 0 && ((prsB s).2.2 == 0 && decide ((prsB s).1 = ({ hdRead s with trunc := false } : Hd).bytes ++ s.drop 12))
def prsErr (c : Int) (w : World) (e : Ending) (w' : World) : Prop := Gr w w' ∧ e = .returned (.tuple #[.agg #[.int .u16 0, .bool false, .int .u8 0, .bool false, .bool false, .bool false, .bool false, .int .u8 0, .int .u8 0, .int .u16 0, .int .u16 0, .int .u16 0, .int .u16 0, .bool false, .slice none 0 0, .int .u16 0, .int .u16 0], .int .i64 0, .bool false, .slice none 0 0, .int .i64 c])
def prsE (D : RdQ) (h : Hd) (w : World) (e : Ending) (w' : World) : Prop :=
  Gr w w' ∧ ∃ a cap L v, w'.ownsRow w.heap.size 9 1 (.slice a D.name.length cap) D.name.length (strVs D.name) ∧ L.map Prod.fst = D.l ∧ RowsOwn w.heap.size w' L v ∧
    e = .returned (.tuple #[.agg (qCells (hdAsked (prsHd h) D.asked) D.asked a D.name.length cap D.t D.c), .int .i64 h.code, .bool h.trunc, v, .int .i64 0])
def prsEnd (s : List UInt8) (w : World) (e : Ending) (w' : World) : Prop := prsE (prsD s) (hdRead s) w e w'
/-- what Parse answers -/
def ParseEnd (s : List UInt8) (w : World) (e : Ending) (w' : World) : Prop :=
  if s.length < 12 then prsErr 2 w e w' else
  if (hdRead s).resp = false then prsErr 8 w e w' else
  if prsOk s = true then prsEnd s w e w' else prsErr 4 w e w'

set_option maxHeartbeats 8000000 in
set_option maxRecDepth 100000 in
theorem parse_short (s : List UInt8) (W : World) (hs : s.length ≤ 100000) (h12 : s.length < 12) : Calls Try.prog 41 #[.string ⟨s.toArray⟩] W (prsErr 2 W) := by
  obtain ⟨iq, hq1, hq2, hq3⟩ := info_two Try.zeroQuery
  obtain ⟨ih, hh1, hh2, hh3⟩ := info_two Try.zeroHead
  obtain ⟨w1, hw1⟩ : ∃ w1, w1 = W.alloc (.cells #[.int .u16 0, .bool false, .int .u8 0, .bool false, .bool false, .bool false, .bool false, .int .u8 0, .int .u8 0, .int .u16 0, .int .u16 0, .int .u16 0, .int .u16 0, .bool false, .slice none 0 0, .int .u16 0, .int .u16 0] 67) := ⟨_, rfl⟩
  have f1 : Gr W w1 := by rw [hw1]; exact (Fr.refl _ _).alloc _
  have A1 := Lib.hid (show w1.heap[W.heap.size]? = some (.cells #[.int .u16 0, .bool false, .int .u8 0, .bool false, .bool false, .bool false, .bool false, .int .u8 0, .int .u8 0, .int .u16 0, .int .u16 0, .int .u16 0, .int .u16 0, .bool false, .slice none 0 0, .int .u16 0, .int .u16 0] 67 (0, 0)) by rw [hw1, heap_alloc_if, if_pos rfl])
  have s1 : W.heap.size < w1.heap.size := by rw [hw1]; simp
  have CD := Lib.hid (headDecode_any s (by omega) w1)
  have HW1 := Lib.hid hw1
  have F1 := Lib.hid f1
  clear hw1 f1
  go_enter Try.func41, Try.ntmps41
  go_upto_region 1 with fail
  rw [← HW1.out]
  clear HW1
  go_wp2_with fail
  refine CD.out.mono ?_
  rintro e w2 ⟨f2, rfl⟩
  rw [if_pos h12]
  simp only [Hd.val, hdZero]
  have F2 := Lib.hid (Gr.trans F1.out f2)
  have A2 := Lib.hid (show w2.heap[W.heap.size]? = some (.cells #[.int .u16 0, .bool false, .int .u8 0, .bool false, .bool false, .bool false, .bool false, .int .u8 0, .int .u8 0, .int .u16 0, .int .u16 0, .int .u16 0, .int .u16 0, .bool false, .slice none 0 0, .int .u16 0, .int .u16 0] 67 (0, 0)) by rw [f2.block _ (by omega) (fun h => h)]; exact A1.out)
  have s2 := f2.size
  clear f2 CD F1 A1
  go_wp2_with (refine wpList_fresh (vs := #[.int .u16 0, .bool false, .int .u8 0, .bool false, .bool false, .bool false, .bool false, .int .u8 0, .int .u8 0, .int .u16 0, .int .u16 0, .int .u16 0, .int .u16 0]) hh1 hh2 Try.infoHead13 (by rfl) (by rw [← Array.all_toList]; rfl) (by rfl) (by rfl) ?_)
  intro w3 f3 b3 l3
  have F3 := Lib.hid (Gr.trans F2.out f3)
  have A3 := Lib.hid (show w3.heap[W.heap.size]? = some (.cells #[.int .u16 0, .bool false, .int .u8 0, .bool false, .bool false, .bool false, .bool false, .int .u8 0, .int .u8 0, .int .u16 0, .int .u16 0, .int .u16 0, .int .u16 0, .bool false, .slice none 0 0, .int .u16 0, .int .u16 0] 67 (0, 0)) by rw [f3.block _ (by omega) (fun h => h)]; exact A2.out)
  have B3 := Lib.hid b3
  have s3 := f3.size
  clear f3 b3 F2 A2
  go_upto_region 3 with fail
  obtain ⟨wy, hwy⟩ : ∃ v, v = w3.setCells W.heap.size 0 (Array.toList #[.int .u16 0, .bool false, .int .u8 0, .bool false, .bool false, .bool false, .bool false, .int .u8 0, .int .u8 0, .int .u16 0, .int .u16 0, .int .u16 0, .int .u16 0, .bool false, .slice none 0 0, .int .u16 0, .int .u16 0]) := ⟨_, rfl⟩
  have fy : Fr (fun k => k = W.heap.size) w3 wy := by rw [hwy]; exact fr_setCells _ _ _ _
  have by1 : wy.heap[W.heap.size]? = some (.cells #[.int .u16 0, .bool false, .int .u8 0, .bool false, .bool false, .bool false, .bool false, .int .u8 0, .int .u8 0, .int .u16 0, .int .u16 0, .int .u16 0, .int .u16 0, .bool false, .slice none 0 0, .int .u16 0, .int .u16 0] 67 (0, 0)) := by rw [hwy]; exact blk_all A3.out _ rfl
  have L6 : Hid ((loadVar 67 ⟨W.heap.size, 0, none⟩).run Try.prog wy = .ok (.agg #[.int .u16 0, .bool false, .int .u8 0, .bool false, .bool false, .bool false, .bool false, .int .u8 0, .int .u8 0, .int .u16 0, .int .u16 0, .int .u16 0, .int .u16 0, .bool false, .slice none 0 0, .int .u16 0, .int .u16 0]) wy) := Lib.hid (run_loadVar_mid wy W.heap.size 0 67 (Array.toList #[.int .u16 0, .bool false, .int .u8 0, .bool false, .bool false, .bool false, .bool false, .int .u8 0, .int .u8 0, .int .u16 0, .int .u16 0, .int .u16 0, .int .u16 0, .bool false, .slice none 0 0, .int .u16 0, .int .u16 0]) _ (blk_range by1) Try.underlying67 rfl Try.infoQuery17)
  have A6 : Hid ((asAddr (.pointer (some ⟨W.heap.size, 0, none⟩))).run Try.prog wy = .ok ⟨W.heap.size, 0, none⟩ wy) := Lib.hid (by simp [go_sem])
  have GY : Hid (Gr W wy) := Lib.hid (gr_of_new ((new_of_gr F3.out).trans fy (fun j h => .inl (by omega))))
  have HWY := Lib.hid hwy
  clear hwy fy by1
  refine wp_region_lit ?_
  refine wpList_qzero ?_
  refine wpList_move ?_
  refine wpList_store_mid (by rfl) 67 _ _ (by rfl) W.heap.size 0 #[.int .u16 0, .bool false, .int .u8 0, .bool false, .bool false, .bool false, .bool false, .int .u8 0, .int .u8 0, .int .u16 0, .int .u16 0, .int .u16 0, .int .u16 0, .bool false, .slice none 0 0, .int .u16 0, .int .u16 0] (by rfl) (by rfl) (blk_there A3.out _ (Nat.le_refl 17)) Try.infoQuery17 (by rw [← Array.all_toList]; rfl) ?_
  rw [← HWY.out]
  clear HWY
  go_wp2_with fail
  refine bodyPost_ret (v := .tuple #[.agg #[.int .u16 0, .bool false, .int .u8 0, .bool false, .bool false, .bool false, .bool false, .int .u8 0, .int .u8 0, .int .u16 0, .int .u16 0, .int .u16 0, .int .u16 0, .bool false, .slice none 0 0, .int .u16 0, .int .u16 0], .int .i64 0, .bool false, .slice none 0 0, .int .i64 2]) (by simp [results, Try.results41, Sem.run_bind, Result.andThen_ok, L6.out, A6.out]) rfl ⟨GY.out, rfl⟩

set_option maxHeartbeats 8000000 in
set_option maxRecDepth 100000 in
theorem parse_query (s : List UInt8) (W : World) (hs : s.length ≤ 100000) (h12 : ¬ s.length < 12) (hr : (hdRead s).resp = false) : Calls Try.prog 41 #[.string ⟨s.toArray⟩] W (prsErr 8 W) := by
  have hfit := hdRead_fits s
  obtain ⟨iq, hq1, hq2, hq3⟩ := info_two Try.zeroQuery
  obtain ⟨ih, hh1, hh2, hh3⟩ := info_two Try.zeroHead
  obtain ⟨w1, hw1⟩ : ∃ w1, w1 = W.alloc (.cells #[.int .u16 0, .bool false, .int .u8 0, .bool false, .bool false, .bool false, .bool false, .int .u8 0, .int .u8 0, .int .u16 0, .int .u16 0, .int .u16 0, .int .u16 0, .bool false, .slice none 0 0, .int .u16 0, .int .u16 0] 67) := ⟨_, rfl⟩
  have f1 : Gr W w1 := by rw [hw1]; exact (Fr.refl _ _).alloc _
  have A1 := Lib.hid (show w1.heap[W.heap.size]? = some (.cells #[.int .u16 0, .bool false, .int .u8 0, .bool false, .bool false, .bool false, .bool false, .int .u8 0, .int .u8 0, .int .u16 0, .int .u16 0, .int .u16 0, .int .u16 0, .bool false, .slice none 0 0, .int .u16 0, .int .u16 0] 67 (0, 0)) by rw [hw1, heap_alloc_if, if_pos rfl])
  have s1 : W.heap.size < w1.heap.size := by rw [hw1]; simp
  have CD := Lib.hid (headDecode_any s (by omega) w1)
  have HW1 := Lib.hid hw1
  have F1 := Lib.hid f1
  clear hw1 f1
  have CE := Lib.hid (CD.out.mono (fun e w' hh => (⟨hh.1, by rw [hh.2, if_neg h12]⟩ : Gr w1 w' ∧ e = .returned (.tuple #[(hdRead s).val, .int .i64 0]))))
  clear CD
  have HR := Lib.hid hr
  clear hr
  generalize hdRead s = h at *
  obtain ⟨b0, b2, b7, b8⟩ := (⟨hfit.id, hfit.op, hfit.zero, hfit.code⟩ : _ ∧ _ ∧ _ ∧ _)
  go_enter Try.func41, Try.ntmps41
  go_upto_region 1 with fail
  rw [← HW1.out]
  clear HW1
  go_wp2_with fail
  refine CE.out.mono ?_
  rintro e w2 ⟨f2, rfl⟩
  simp only [Hd.val]
  have F2 := Lib.hid (Gr.trans F1.out f2)
  have A2 := Lib.hid (show w2.heap[W.heap.size]? = some (.cells #[.int .u16 0, .bool false, .int .u8 0, .bool false, .bool false, .bool false, .bool false, .int .u8 0, .int .u8 0, .int .u16 0, .int .u16 0, .int .u16 0, .int .u16 0, .bool false, .slice none 0 0, .int .u16 0, .int .u16 0] 67 (0, 0)) by rw [f2.block _ (by omega) (fun h => h)]; exact A1.out)
  have s2 := f2.size
  clear f2 CE F1 A1
  go_wp2_with (refine wpList_fresh (vs := #[.int .u16 h.id, .bool h.resp, .int .u8 h.op, .bool h.auth, .bool h.trunc, .bool h.des, .bool h.avail, .int .u8 h.zero, .int .u8 h.code, .int .u16 h.c0, .int .u16 h.c1, .int .u16 h.c2, .int .u16 h.c3]) hh1 hh2 Try.infoHead13 (by rfl) (by rw [← Array.all_toList]; rfl) (by rfl) (by rfl) ?_)
  intro w3 f3 b3 l3
  have F3 := Lib.hid (Gr.trans F2.out f3)
  have A3 := Lib.hid (show w3.heap[W.heap.size]? = some (.cells #[.int .u16 0, .bool false, .int .u8 0, .bool false, .bool false, .bool false, .bool false, .int .u8 0, .int .u8 0, .int .u16 0, .int .u16 0, .int .u16 0, .int .u16 0, .bool false, .slice none 0 0, .int .u16 0, .int .u16 0] 67 (0, 0)) by rw [f3.block _ (by omega) (fun h => h)]; exact A2.out)
  have B3 := Lib.hid b3
  have s3 := f3.size
  have x1 : w3.cell? ⟨w2.heap.size, 1, none⟩ = some (.bool false) := by rw [Lib.cell_of_heap B3.out, ← HR.out]; rfl
  clear f3 b3 F2 A2
  go_upto_region 5 with fail
  obtain ⟨wy, hwy⟩ : ∃ v, v = w3.setCells W.heap.size 0 (Array.toList #[.int .u16 0, .bool false, .int .u8 0, .bool false, .bool false, .bool false, .bool false, .int .u8 0, .int .u8 0, .int .u16 0, .int .u16 0, .int .u16 0, .int .u16 0, .bool false, .slice none 0 0, .int .u16 0, .int .u16 0]) := ⟨_, rfl⟩
  have fy : Fr (fun k => k = W.heap.size) w3 wy := by rw [hwy]; exact fr_setCells _ _ _ _
  have by1 : wy.heap[W.heap.size]? = some (.cells #[.int .u16 0, .bool false, .int .u8 0, .bool false, .bool false, .bool false, .bool false, .int .u8 0, .int .u8 0, .int .u16 0, .int .u16 0, .int .u16 0, .int .u16 0, .bool false, .slice none 0 0, .int .u16 0, .int .u16 0] 67 (0, 0)) := by rw [hwy]; exact blk_all A3.out _ rfl
  have L6 : Hid ((loadVar 67 ⟨W.heap.size, 0, none⟩).run Try.prog wy = .ok (.agg #[.int .u16 0, .bool false, .int .u8 0, .bool false, .bool false, .bool false, .bool false, .int .u8 0, .int .u8 0, .int .u16 0, .int .u16 0, .int .u16 0, .int .u16 0, .bool false, .slice none 0 0, .int .u16 0, .int .u16 0]) wy) := Lib.hid (run_loadVar_mid wy W.heap.size 0 67 (Array.toList #[.int .u16 0, .bool false, .int .u8 0, .bool false, .bool false, .bool false, .bool false, .int .u8 0, .int .u8 0, .int .u16 0, .int .u16 0, .int .u16 0, .int .u16 0, .bool false, .slice none 0 0, .int .u16 0, .int .u16 0]) _ (blk_range by1) Try.underlying67 rfl Try.infoQuery17)
  have A6 : Hid ((asAddr (.pointer (some ⟨W.heap.size, 0, none⟩))).run Try.prog wy = .ok ⟨W.heap.size, 0, none⟩ wy) := Lib.hid (by simp [go_sem])
  have GY : Hid (Gr W wy) := Lib.hid (gr_of_new ((new_of_gr F3.out).trans fy (fun j h => .inl (by omega))))
  have HWY := Lib.hid hwy
  clear hwy fy by1
  refine wp_region_lit ?_
  refine wpList_qzero ?_
  refine wpList_store_mid (by rfl) 67 _ _ (by rfl) W.heap.size 0 #[.int .u16 0, .bool false, .int .u8 0, .bool false, .bool false, .bool false, .bool false, .int .u8 0, .int .u8 0, .int .u16 0, .int .u16 0, .int .u16 0, .int .u16 0, .bool false, .slice none 0 0, .int .u16 0, .int .u16 0] (by rfl) (by rfl) (blk_there A3.out _ (Nat.le_refl 17)) Try.infoQuery17 (by rw [← Array.all_toList]; rfl) ?_
  rw [← HWY.out]
  clear HWY
  go_wp2_with fail
  refine bodyPost_ret (v := .tuple #[.agg #[.int .u16 0, .bool false, .int .u8 0, .bool false, .bool false, .bool false, .bool false, .int .u8 0, .int .u8 0, .int .u16 0, .int .u16 0, .int .u16 0, .int .u16 0, .bool false, .slice none 0 0, .int .u16 0, .int .u16 0], .int .i64 0, .bool false, .slice none 0 0, .int .i64 8]) (by simp [results, Try.results41, Sem.run_bind, Result.andThen_ok, L6.out, A6.out]) rfl ⟨GY.out, rfl⟩

theorem rdRecs_fit (k : Nat) (s : List UInt8) : ∀ r ∈ (rdRecs k s).1, r.Fits := rdRecs_fits k s
theorem rdBody_fit (asked : Bool) (nm : List Lbl) (u : List UInt8) (n : Nat) : (0 ≤ (rdBody asked nm u n).t ∧ (rdBody asked nm u n).t ≤ 65535) ∧ (0 ≤ (rdBody asked nm u n).c ∧ (rdBody asked nm u n).c ≤ 65535) ∧ ∀ r ∈ (rdBody asked nm u n).l, r.Fits := by
  have a0 := numAt_range u 0
  have a2 := numAt_range u 2
  unfold rdBody
  split
  · split
    · exact ⟨by simp, by simp, fun r h => by simp at h⟩
    · split
      · exact ⟨a0, by simp, fun r h => by simp at h⟩
      · exact ⟨a0, a2, rdRecs_fits _ _⟩
  · exact ⟨by simp, by simp, rdRecs_fits _ _⟩
theorem rdReply_fit (s : List UInt8) (c0 c1 : Int) : (0 ≤ (rdReply s c0 c1).t ∧ (rdReply s c0 c1).t ≤ 65535) ∧ (0 ≤ (rdReply s c0 c1).c ∧ (rdReply s c0 c1).c ≤ 65535) ∧ ∀ r ∈ (rdReply s c0 c1).l, r.Fits := by
  unfold rdReply
  split
  · split
    · exact ⟨by simp, by simp, fun r h => by simp at h⟩
    · exact rdBody_fit _ _ _ _
  · exact rdBody_fit _ _ _ _
theorem prsHd_fits (h : Hd) (hf : h.Fits) (b : Bool) : (hdAsked (prsHd h) b).Fits := by
  have a0 := hf.id
  have a1 := hf.op
  cases b <;> constructor <;> simp [hdAsked, prsHd, hdZero] <;> omega
theorem plain_ok (h : Hd) (hb : ¬ h.bad) : ¬ ({ h with trunc := false } : Hd).bad := hb
theorem hdRead_ok (s : List UInt8) : ¬ (hdRead s).bad := by
  have r := numAt_range s 2
  unfold Hd.bad hdRead hdOf
  simp only
  omega
theorem RowsOwn.at {B : Nat} {w : World} {L : List RowR} {a : Option Addr} {cap : Nat} (h : RowsOwn B w L (.slice a L.length cap)) (hf : ∀ x ∈ L, x.1.Fits) : RowsAt w a cap L := by
  obtain ⟨a', cap', e, hs, -⟩ := SlA.of_own h.row
  cases e
  refine ⟨hs, fun x hx => ?_, hf⟩
  obtain ⟨a2, c2, e2, hs2, -⟩ := SlA.of_own (h.tgt x hx)
  cases e2
  exact hs2

set_option maxHeartbeats 16000000 in
set_option maxRecDepth 100000 in
theorem parse_main (s : List UInt8) (W : World) (hs : s.length ≤ 100000) (h12 : ¬ s.length < 12) (hr : (hdRead s).resp = true) : Calls Try.prog 41 #[.string ⟨s.toArray⟩] W (fun e w' => if prsOk s = true then prsEnd s W e w' else prsErr 4 W e w') := by
  have hfit := hdRead_fits s
  have hok := hdRead_ok s
  obtain ⟨fD1, fD2, fD3⟩ := rdReply_fit s (hdRead s).c0 (hdRead s).c1
  have HFD := Lib.hid fD3
  have HPO : Hid (prsOk s = (((prsD s).e == 0) && (((prsB s).2.2 == 0) && decide ((prsB s).1 = ({ hdRead s with trunc := false } : Hd).bytes ++ s.drop 12)))) := Lib.hid rfl
  have HPB : Hid (prsB s = bldOut (hdAsked (prsHd (hdRead s)) (prsD s).asked) (prsD s).asked (prsD s).name (prsD s).t (prsD s).c (hdRead s).code (prsD s).l) := Lib.hid rfl
  unfold prsEnd
  rw [show rdReply s (hdRead s).c0 (hdRead s).c1 = prsD s from rfl] at fD1 fD2 HFD
  clear fD3
  have CR : Hid (∀ q w, w.heap[q]? = some (.cells (qCells (prsHd (hdRead s)) false none 0 0 0 0) 67 (0, 0)) → Calls Try.prog 75 #[.string ⟨s.toArray⟩, .pointer (some ⟨q, 0, none⟩), .agg #[.int .u16 (hdRead s).c0, .int .u16 (hdRead s).c1, .int .u16 (hdRead s).c2, .int .u16 (hdRead s).c3]] w (ReadEnd q (prsHd (hdRead s)) (prsD s) w)) :=
    Lib.hid (fun q w hb => read_any q (prsHd (hdRead s)) s _ _ _ _ w hb (by omega) hs hfit.c0 hfit.c1)
  generalize prsB s = B at *
  generalize prsD s = D at *
  obtain ⟨ok, hok2⟩ : ∃ b, b = prsOk s := ⟨_, rfl⟩
  rw [← hok2] at HPO ⊢
  clear hok2
  obtain ⟨iq, hq1, hq2, hq3⟩ := info_two Try.zeroQuery
  obtain ⟨ih, hh1, hh2, hh3⟩ := info_two Try.zeroHead
  obtain ⟨w1, hw1⟩ : ∃ w1, w1 = W.alloc (.cells #[.int .u16 0, .bool false, .int .u8 0, .bool false, .bool false, .bool false, .bool false, .int .u8 0, .int .u8 0, .int .u16 0, .int .u16 0, .int .u16 0, .int .u16 0, .bool false, .slice none 0 0, .int .u16 0, .int .u16 0] 67) := ⟨_, rfl⟩
  have f1 : Gr W w1 := by rw [hw1]; exact (Fr.refl _ _).alloc _
  have A1 := Lib.hid (show w1.heap[W.heap.size]? = some (.cells #[.int .u16 0, .bool false, .int .u8 0, .bool false, .bool false, .bool false, .bool false, .int .u8 0, .int .u8 0, .int .u16 0, .int .u16 0, .int .u16 0, .int .u16 0, .bool false, .slice none 0 0, .int .u16 0, .int .u16 0] 67 (0, 0)) by rw [hw1, heap_alloc_if, if_pos rfl])
  have s1 : W.heap.size < w1.heap.size := by rw [hw1]; simp
  have CD := Lib.hid (headDecode_any s (by omega) w1)
  have HW1 := Lib.hid hw1
  have F1 := Lib.hid f1
  clear hw1 f1
  have CE := Lib.hid (CD.out.mono (fun e w' hh => (⟨hh.1, by rw [hh.2, if_neg h12]⟩ : Gr w1 w' ∧ e = .returned (.tuple #[(hdRead s).val, .int .i64 0]))))
  clear CD
  have HR := Lib.hid hr
  clear hr
  generalize hdRead s = h at *
  have HFIT := Lib.hid hfit
  obtain ⟨b0, b2, b7, b8, b9, b10, b11, b12⟩ := (⟨hfit.id, hfit.op, hfit.zero, hfit.code, hfit.c0, hfit.c1, hfit.c2, hfit.c3⟩ : _ ∧ _ ∧ _ ∧ _ ∧ _ ∧ _ ∧ _ ∧ _)
  have CE2 : Hid (∀ w, Calls Try.prog 68 #[.agg #[.int .u16 h.id, .bool h.resp, .int .u8 h.op, .bool h.auth, .bool false, .bool h.des, .bool h.avail, .int .u8 h.zero, .int .u8 h.code, .int .u16 h.c0, .int .u16 h.c1, .int .u16 h.c2, .int .u16 h.c3]] w fun e w' => e = .returned (.tuple #[.string ⟨({ h with trunc := false } : Hd).bytes.toArray⟩, .int .i64 0]) ∧ Gr w w') := Lib.hid (fun w => by
    have h1 := headEncode_any { h with trunc := false } ⟨hfit.id, hfit.op, hfit.zero, hfit.code, hfit.c0, hfit.c1, hfit.c2, hfit.c3⟩ w
    have h2 : hdOut { h with trunc := false } = .ok ({ h with trunc := false } : Hd).bytes := by unfold hdOut; rw [if_neg (plain_ok h hok)]
    rw [h2] at h1
    exact h1)
  have hbl := hd_bytes_length { h with trunc := false }
  generalize ({ h with trunc := false } : Hd).bytes = hb at *
  clear hfit hok
  go_enter Try.func41, Try.ntmps41
  go_upto_region 1 with fail
  rw [← HW1.out]
  clear HW1
  go_wp2_with fail
  refine CE.out.mono ?_
  rintro e w2 ⟨f2, rfl⟩
  simp only [Hd.val]
  have F2 := Lib.hid (Gr.trans F1.out f2)
  have A2 := Lib.hid (show w2.heap[W.heap.size]? = some (.cells #[.int .u16 0, .bool false, .int .u8 0, .bool false, .bool false, .bool false, .bool false, .int .u8 0, .int .u8 0, .int .u16 0, .int .u16 0, .int .u16 0, .int .u16 0, .bool false, .slice none 0 0, .int .u16 0, .int .u16 0] 67 (0, 0)) by rw [f2.block _ (by omega) (fun h => h)]; exact A1.out)
  have s2 := f2.size
  clear f2 CE F1 A1
  go_wp2_with (refine wpList_fresh (vs := #[.int .u16 h.id, .bool h.resp, .int .u8 h.op, .bool h.auth, .bool h.trunc, .bool h.des, .bool h.avail, .int .u8 h.zero, .int .u8 h.code, .int .u16 h.c0, .int .u16 h.c1, .int .u16 h.c2, .int .u16 h.c3]) hh1 hh2 Try.infoHead13 (by rfl) (by rw [← Array.all_toList]; rfl) (by rfl) (by rfl) ?_)
  intro w3 f3 b3 l3
  have F3 := Lib.hid (Gr.trans F2.out f3)
  have A3 := Lib.hid (show w3.heap[W.heap.size]? = some (.cells #[.int .u16 0, .bool false, .int .u8 0, .bool false, .bool false, .bool false, .bool false, .int .u8 0, .int .u8 0, .int .u16 0, .int .u16 0, .int .u16 0, .int .u16 0, .bool false, .slice none 0 0, .int .u16 0, .int .u16 0] 67 (0, 0)) by rw [f3.block _ (by omega) (fun h => h)]; exact A2.out)
  have B3 := Lib.hid b3
  have s3 := f3.size
  obtain ⟨g, hg⟩ : ∃ g, g = w2.heap.size := ⟨_, rfl⟩
  rw [← hg] at B3 ⊢
  have hgW : W.heap.size < g := by omega
  have hg3 : g < w3.heap.size := by omega
  have x1 : w3.cell? ⟨g, 1, none⟩ = some (.bool true) := by rw [Lib.cell_of_heap B3.out, ← HR.out]; rfl
  have x0 : w3.cell? ⟨g, 0, none⟩ = some (.int .u16 h.id) := by rw [Lib.cell_of_heap B3.out]; rfl
  have x2 : w3.cell? ⟨g, 2, none⟩ = some (.int .u8 h.op) := by rw [Lib.cell_of_heap B3.out]; rfl
  have x5 : w3.cell? ⟨g, 5, none⟩ = some (.bool h.des) := by rw [Lib.cell_of_heap B3.out]; rfl
  clear f3 b3 F2 A2 hg l3 s3
  go_wp2_with (refine wpList_bld1 (i := h.id) (j := h.op) (b := h.des) (by rfl) (by rfl) (by rfl) ?_; refine wpList_bld2 (by rfl) ?_; refine wpList_fresh (vs := #[.int .u16 h.id, .bool false, .int .u8 h.op, .bool false, .bool false, .bool h.des, .bool false, .int .u8 0, .int .u8 0, .int .u16 0, .int .u16 0, .int .u16 0, .int .u16 0, .bool false, .slice none 0 0, .int .u16 0, .int .u16 0]) hq1 hq2 Try.infoQuery17 (by rfl) (by rw [← Array.all_toList]; rfl) (by rfl) (by rfl) ?_)
  intro w4 f4 b4 l4
  obtain ⟨q, hq⟩ : ∃ q, q = w3.heap.size := ⟨_, rfl⟩
  rw [← hq] at b4 l4 ⊢
  have hgq : g < q := by omega
  have CRq := Lib.hid (CR.out q w4 b4)
  have F4 := Lib.hid (Gr.trans F3.out f4)
  have A4 := Lib.hid (show w4.heap[W.heap.size]? = some (.cells #[.int .u16 0, .bool false, .int .u8 0, .bool false, .bool false, .bool false, .bool false, .int .u8 0, .int .u8 0, .int .u16 0, .int .u16 0, .int .u16 0, .int .u16 0, .bool false, .slice none 0 0, .int .u16 0, .int .u16 0] 67 (0, 0)) by rw [f4.block _ (by omega) (fun h => h)]; exact A3.out)
  have B4 := Lib.hid (show w4.heap[g]? = some (.cells #[.int .u16 h.id, .bool h.resp, .int .u8 h.op, .bool h.auth, .bool h.trunc, .bool h.des, .bool h.avail, .int .u8 h.zero, .int .u8 h.code, .int .u16 h.c0, .int .u16 h.c1, .int .u16 h.c2, .int .u16 h.c3] 64 (0, 0)) by rw [f4.block _ (by omega) (fun h => h)]; exact B3.out)
  have x9 : w4.cell? ⟨g, 9, none⟩ = some (.int .u16 h.c0) := by rw [Lib.cell_of_heap B4.out]; rfl
  have x10 : w4.cell? ⟨g, 10, none⟩ = some (.int .u16 h.c1) := by rw [Lib.cell_of_heap B4.out]; rfl
  have x11 : w4.cell? ⟨g, 11, none⟩ = some (.int .u16 h.c2) := by rw [Lib.cell_of_heap B4.out]; rfl
  have x12 : w4.cell? ⟨g, 12, none⟩ = some (.int .u16 h.c3) := by rw [Lib.cell_of_heap B4.out]; rfl
  clear f4 b4 x0 x1 x2 x5 hq F3 A3 B3 CR hq1 hq2 hq3 hh1 hh2 hh3
  go_wp2_with fail
  refine CRq.out.mono ?_
  rintro e w5 ⟨f5, a, cap, L, v, ow, hqb, hL, hown, rfl⟩
  obtain ⟨av, cv, rfl⟩ := hown.slice
  have hs5 := f5.size
  have A5 := Lib.hid (show w5.heap[W.heap.size]? = some (.cells #[.int .u16 0, .bool false, .int .u8 0, .bool false, .bool false, .bool false, .bool false, .int .u8 0, .int .u8 0, .int .u16 0, .int .u16 0, .int .u16 0, .int .u16 0, .bool false, .slice none 0 0, .int .u16 0, .int .u16 0] 67 (0, 0)) by rw [f5.block _ (by omega) (by omega)]; exact A4.out)
  have B5 := Lib.hid (show w5.heap[g]? = some (.cells #[.int .u16 h.id, .bool h.resp, .int .u8 h.op, .bool h.auth, .bool h.trunc, .bool h.des, .bool h.avail, .int .u8 h.zero, .int .u8 h.code, .int .u16 h.c0, .int .u16 h.c1, .int .u16 h.c2, .int .u16 h.c3] 64 (0, 0)) by rw [f5.block _ (by omega) (by omega)]; exact B4.out)
  have F5 : Hid (Fr (fun k => W.heap.size < k) W w5) := Lib.hid (Fr.trans (Fr.mono (T := fun k => W.heap.size < k) F4.out (fun _ _ h => h.elim)) f5 (fun k h => .inl (by omega)))
  have x4 : w5.cell? ⟨g, 4, none⟩ = some (.bool h.trunc) := by rw [Lib.cell_of_heap B5.out]; rfl
  have z4 : w5.frozen? ⟨g, 4, none⟩ = false := Lib.frozen_of_heap B5.out 4
  have OW5 := Lib.hid ow
  have QB5 := Lib.hid hqb
  have HL5 := Lib.hid hL
  have RO5 := Lib.hid hown
  clear f5 ow hqb hL hown CRq F4 A4 B4 x9 x10 x11 x12
  go_upto_region 10 with fail
  obtain ⟨w6, hw6⟩ : ∃ v, v = w5.setCell ⟨g, 4, none⟩ (.bool false) := ⟨_, rfl⟩
  rw [← hw6]
  have f6 : Fr (fun k => k = g) w5 w6 := by rw [hw6]; exact fr_put _ _ _ _
  have hs6 := f6.size
  have B6 := Lib.hid (show w6.heap[g]? = some (.cells #[.int .u16 h.id, .bool h.resp, .int .u8 h.op, .bool h.auth, .bool false, .bool h.des, .bool h.avail, .int .u8 h.zero, .int .u8 h.code, .int .u16 h.c0, .int .u16 h.c1, .int .u16 h.c2, .int .u16 h.c3] 64 (0, 0)) by rw [hw6]; exact blk_set B5.out 4 (.bool false))
  have A6' := Lib.hid (show w6.heap[W.heap.size]? = some (.cells #[.int .u16 0, .bool false, .int .u8 0, .bool false, .bool false, .bool false, .bool false, .int .u8 0, .int .u8 0, .int .u16 0, .int .u16 0, .int .u16 0, .int .u16 0, .bool false, .slice none 0 0, .int .u16 0, .int .u16 0] 67 (0, 0)) by rw [f6.block _ (by omega) (by omega)]; exact A5.out)
  have Q6 := Lib.hid (show w6.heap[q]? = some (.cells (qCells (hdAsked (prsHd h) D.asked) D.asked a D.name.length cap D.t D.c) 67 (0, 0)) by rw [f6.block _ (by omega) (by omega)]; exact QB5.out)
  have F6 := Lib.hid (F5.out.trans f6 (fun k h => .inl (by omega)))
  have OW6 := Lib.hid (own_fr OW5.out f6 (fun q' hq' h => by have := (OW5.out.lt q' hq').1; omega))
  have RO6 := Lib.hid (RO5.out.keep f6 (fun k hk => by omega))
  clear hw6 f6 x4 z4 A5 B5 F5 OW5 RO5 QB5
  refine wp_region_lit ?_
  refine wpList_load_mid (by rfl) 64 _ (by rfl) g 0 (by rfl) (Array.toList #[.int .u16 h.id, .bool h.resp, .int .u8 h.op, .bool h.auth, .bool false, .bool h.des, .bool h.avail, .int .u8 h.zero, .int .u8 h.code, .int .u16 h.c0, .int .u16 h.c1, .int .u16 h.c2, .int .u16 h.c3]) _ (blk_range B6.out) Try.underlying64 rfl Try.infoHead13 ?_
  go_wp2_with fail
  refine (CE2.out _).mono ?_
  rintro e w7 ⟨rfl, f7⟩
  have hs7 := f7.size
  have B7 := Lib.hid (show w7.heap[g]? = some (.cells #[.int .u16 h.id, .bool h.resp, .int .u8 h.op, .bool h.auth, .bool false, .bool h.des, .bool h.avail, .int .u8 h.zero, .int .u8 h.code, .int .u16 h.c0, .int .u16 h.c1, .int .u16 h.c2, .int .u16 h.c3] 64 (0, 0)) by rw [f7.block _ (by omega) (fun h => h)]; exact B6.out)
  have A7 := Lib.hid (show w7.heap[W.heap.size]? = some (.cells #[.int .u16 0, .bool false, .int .u8 0, .bool false, .bool false, .bool false, .bool false, .int .u8 0, .int .u8 0, .int .u16 0, .int .u16 0, .int .u16 0, .int .u16 0, .bool false, .slice none 0 0, .int .u16 0, .int .u16 0] 67 (0, 0)) by rw [f7.block _ (by omega) (fun h => h)]; exact A6'.out)
  have Q7 := Lib.hid (show w7.heap[q]? = some (.cells (qCells (hdAsked (prsHd h) D.asked) D.asked a D.name.length cap D.t D.c) 67 (0, 0)) by rw [f7.block _ (by omega) (fun h => h)]; exact Q6.out)
  have F7 := Lib.hid (F6.out.trans f7 (fun k h => h.elim))
  have OW7 := Lib.hid (own_fr OW6.out f7 (fun _ _ h => h))
  have RO7 := Lib.hid (RO6.out.keep f7 (fun k hk => hk.elim))
  clear f7 CE2 B6 A6' Q6 F6 OW6 RO6
  have hLf : ∀ x ∈ L, x.1.Fits := fun x hx => HFD.out x.1 (by rw [← HL5.out]; exact List.mem_map_of_mem hx)
  obtain ⟨a', cap', ea, sn, -⟩ := SlA.of_own OW7.out
  cases ea
  have CB := Lib.hid (build_any (hdAsked (prsHd h) D.asked) (prsHd_fits h HFIT.out D.asked) D.asked a cap D.name D.t D.c h.code av cv L w7 sn fD1 fD2 (by omega) (RO7.out.at hLf))
  unfold BuildEnd at CB
  rw [HL5.out, ← HPB.out] at CB
  have x8 : w7.cell? ⟨g, 8, none⟩ = some (.int .u8 h.code) := by rw [Lib.cell_of_heap B7.out]; rfl
  clear sn hLf HPB HFD
  go_upto_region 11 with fail
  refine wp_region_lit ?_
  refine wpList_load_query Q7.out (by rfl) _ (by rfl) (by rfl) ?_
  go_wp2_with fail
  refine CB.out.mono ?_
  rintro e w8 ⟨rfl, f8⟩
  have hs8 := f8.size
  have B8 := Lib.hid (show w8.heap[g]? = some (.cells #[.int .u16 h.id, .bool h.resp, .int .u8 h.op, .bool h.auth, .bool false, .bool h.des, .bool h.avail, .int .u8 h.zero, .int .u8 h.code, .int .u16 h.c0, .int .u16 h.c1, .int .u16 h.c2, .int .u16 h.c3] 64 (0, 0)) by rw [f8.block _ (by omega) (fun h => h)]; exact B7.out)
  have A8 := Lib.hid (show w8.heap[W.heap.size]? = some (.cells #[.int .u16 0, .bool false, .int .u8 0, .bool false, .bool false, .bool false, .bool false, .int .u8 0, .int .u8 0, .int .u16 0, .int .u16 0, .int .u16 0, .int .u16 0, .bool false, .slice none 0 0, .int .u16 0, .int .u16 0] 67 (0, 0)) by rw [f8.block _ (by omega) (fun h => h)]; exact A7.out)
  have Q8 := Lib.hid (show w8.heap[q]? = some (.cells (qCells (hdAsked (prsHd h) D.asked) D.asked a D.name.length cap D.t D.c) 67 (0, 0)) by rw [f8.block _ (by omega) (fun h => h)]; exact Q7.out)
  have F8 := Lib.hid (F7.out.trans f8 (fun k h => h.elim))
  have OW8 := Lib.hid (own_fr OW7.out f8 (fun _ _ h => h))
  have RO8 := Lib.hid (RO7.out.keep f8 (fun k hk => hk.elim))
  clear f8 CB B7 A7 Q7 F7 OW7 RO7 x8
  have G8 := Lib.hid (F8.out.mono (T := fun _ => False) (fun k hk h => by omega))
  obtain ⟨B1, Bn, B2⟩ := B
  simp only at HPO
  have hx := ext_all s 12
  have zs := mk_size s
  have zh := mk_size hb
  have happ := mk_cat hb (s.drop 12)
  have hdl : (s.drop 12).length ≤ 100000 := by rw [List.length_drop]; omega
  generalize s.drop 12 = u at *
  have hs12 : (12 : Nat) ≤ s.length := by omega
  obtain ⟨de, hde⟩ : ∃ x, x = D.e := ⟨_, rfl⟩
  rw [← hde] at HPO ⊢
  clear hde
  by_cases e1 : de = 0
  · subst e1
    by_cases e2 : B2 = 0
    · subst e2
      have HPO2 : Hid (ok = decide (B1 = hb ++ u)) := Lib.hid (by rw [HPO.out]; rfl)
      clear HPO
      go_upto_region 12 with fail
      go_cut [76] from 63 to 76 (fun v wx => v = .bool (!ok) ∧ w8 = wx)
      case first =>
        go_wp2_with fail
        go_meet
        exact ⟨by rw [HPO2.out]; by_cases h : B1 = hb ++ u <;> simp [h], rfl⟩
      case rest =>
        obtain ⟨rfl, rfl⟩ := hcut
        clear HPO2 hx happ
        cases ok
        · go_upto_region 13 with fail
          obtain ⟨wy, hwy⟩ : ∃ v, v = w8.setCells W.heap.size 0 (Array.toList #[.int .u16 0, .bool false, .int .u8 0, .bool false, .bool false, .bool false, .bool false, .int .u8 0, .int .u8 0, .int .u16 0, .int .u16 0, .int .u16 0, .int .u16 0, .bool false, .slice none 0 0, .int .u16 0, .int .u16 0]) := ⟨_, rfl⟩
          have fy : Fr (fun k => k = W.heap.size) w8 wy := by rw [hwy]; exact fr_setCells _ _ _ _
          have by1 : wy.heap[W.heap.size]? = some (.cells #[.int .u16 0, .bool false, .int .u8 0, .bool false, .bool false, .bool false, .bool false, .int .u8 0, .int .u8 0, .int .u16 0, .int .u16 0, .int .u16 0, .int .u16 0, .bool false, .slice none 0 0, .int .u16 0, .int .u16 0] 67 (0, 0)) := by rw [hwy]; exact blk_all A8.out _ rfl
          have L6 : Hid ((loadVar 67 ⟨W.heap.size, 0, none⟩).run Try.prog wy = .ok (.agg #[.int .u16 0, .bool false, .int .u8 0, .bool false, .bool false, .bool false, .bool false, .int .u8 0, .int .u8 0, .int .u16 0, .int .u16 0, .int .u16 0, .int .u16 0, .bool false, .slice none 0 0, .int .u16 0, .int .u16 0]) wy) := Lib.hid (run_loadVar_mid wy W.heap.size 0 67 (Array.toList #[.int .u16 0, .bool false, .int .u8 0, .bool false, .bool false, .bool false, .bool false, .int .u8 0, .int .u8 0, .int .u16 0, .int .u16 0, .int .u16 0, .int .u16 0, .bool false, .slice none 0 0, .int .u16 0, .int .u16 0]) _ (blk_range by1) Try.underlying67 rfl Try.infoQuery17)
          have A6 : Hid ((asAddr (.pointer (some ⟨W.heap.size, 0, none⟩))).run Try.prog wy = .ok ⟨W.heap.size, 0, none⟩ wy) := Lib.hid (by simp [go_sem])
          have GY : Hid (Gr W wy) := Lib.hid (gr_of_new ((new_of_gr G8.out).trans fy (fun j h => .inl (by omega))))
          have HWY := Lib.hid hwy
          clear hwy fy by1
          refine wp_region_lit ?_
          refine wpList_qzero ?_
          refine wpList_store_mid (by rfl) 67 _ _ (by rfl) W.heap.size 0 #[.int .u16 0, .bool false, .int .u8 0, .bool false, .bool false, .bool false, .bool false, .int .u8 0, .int .u8 0, .int .u16 0, .int .u16 0, .int .u16 0, .int .u16 0, .bool false, .slice none 0 0, .int .u16 0, .int .u16 0] (by rfl) (by rfl) (blk_there A8.out _ (Nat.le_refl 17)) Try.infoQuery17 (by rw [← Array.all_toList]; rfl) ?_
          rw [← HWY.out]
          clear HWY
          go_wp2_with fail
          refine bodyPost_ret (v := .tuple #[.agg #[.int .u16 0, .bool false, .int .u8 0, .bool false, .bool false, .bool false, .bool false, .int .u8 0, .int .u8 0, .int .u16 0, .int .u16 0, .int .u16 0, .int .u16 0, .bool false, .slice none 0 0, .int .u16 0, .int .u16 0], .int .i64 0, .bool false, .slice none 0 0, .int .i64 4]) (by simp [results, Try.results41, Sem.run_bind, Result.andThen_ok, L6.out, A6.out]) rfl ⟨GY.out, rfl⟩
        · haveI : Nonempty (WC (Fr (fun k => k = W.heap.size) w8)) := ⟨⟨w8, Fr.refl _ _⟩⟩
          have b8' := B8.out
          have x8 : ∀ z : WC (Fr (fun k => k = W.heap.size) w8), z.val.cell? ⟨g, 8, none⟩ = some (.int .u8 h.code) := fun z => z.ok.cell (by rw [Lib.cell_of_heap b8']; rfl) (by simp only; omega)
          have r8 : ∀ w', (∃ z : WC (Fr (fun k => k = W.heap.size) w8), w' = z.val) → w'.rangeAt q 0 (qCells (hdAsked (prsHd h) D.asked) D.asked a D.name.length cap D.t D.c).toList := fun w' hz => by
            obtain ⟨z, rfl⟩ := hz
            exact blk_range (show z.val.heap[q]? = some (.cells (qCells (hdAsked (prsHd h) D.asked) D.asked a D.name.length cap D.t D.c) 67 (0, 0)) by rw [z.ok.block q (by omega) (by omega)]; exact Q8.out)
          have R8 := Lib.hid r8
          obtain ⟨wy, hwy⟩ : ∃ v, v = w8.drew.setCells W.heap.size 0 (qCells (hdAsked (prsHd h) D.asked) D.asked a D.name.length cap D.t D.c).toList := ⟨_, rfl⟩
          have fy : Fr (fun k => k = W.heap.size) w8 wy := by rw [hwy]; exact Fr.trans ((Fr.refl (fun k => k = W.heap.size) w8).drew) (fr_setCells _ _ _ _) (fun k h => .inl h)
          have by1 : wy.heap[W.heap.size]? = some (.cells (qCells (hdAsked (prsHd h) D.asked) D.asked a D.name.length cap D.t D.c) 67 (0, 0)) := by rw [hwy]; exact blk_all (w := w8.drew) A8.out _ rfl
          have TH := Lib.hid (show w8.drew.there W.heap.size 0 17 from blk_there A8.out 17 (Nat.le_refl 17))
          have L6 : Hid ((loadVar 67 ⟨W.heap.size, 0, none⟩).run Try.prog wy = .ok (.agg (qCells (hdAsked (prsHd h) D.asked) D.asked a D.name.length cap D.t D.c)) wy) := Lib.hid (run_loadVar_mid wy W.heap.size 0 67 (qCells (hdAsked (prsHd h) D.asked) D.asked a D.name.length cap D.t D.c).toList _ (blk_range by1) Try.underlying67 rfl Try.infoQuery17)
          have A6 : Hid ((asAddr (.pointer (some ⟨W.heap.size, 0, none⟩))).run Try.prog wy = .ok ⟨W.heap.size, 0, none⟩ wy) := Lib.hid (by simp [go_sem])
          have GY : Hid (Gr W wy) := Lib.hid (gr_of_new ((new_of_gr G8.out).trans fy (fun j h => .inl (by omega))))
          have FY := Lib.hid fy
          have OY := Lib.hid (own_base (own_fr OW8.out fy (fun q' hq' h => by have := (OW8.out.lt q' hq').1; omega)) (show W.heap.size ≤ w4.heap.size by omega))
          have RY := Lib.hid ((RO8.out.keep fy (fun k hk => by omega)).base (show W.heap.size ≤ w4.heap.size by omega))
          have HWY := Lib.hid hwy
          clear hwy fy by1 b8' r8 OW8 RO8
          go_upto_region 14 with fail
          refine wp_region_plan [6] (Plan.seq (List.range 11) .done) (fun w' => ∃ z : WC (Fr (fun k => k = W.heap.size) w8), w' = z.val) (by kernel_rfl) (by kernel_rfl) (fun c a w d v h => by cases d <;> exact h) (fun c a w d v h => by cases d <;> exact h) ⟨⟨w8.drew, (Fr.refl _ _).drew⟩, rfl⟩ ?_
          simp only [Plan.seq, List.range, List.range.loop, List.foldr]
          refine wpV_q (by simp only [List.getElem?_toArray, List.getElem?_cons_zero] <;> rfl) (by rfl) (by rfl) ?_
          refine wpQuiet_load_mid (by rfl) 67 _ (by rfl) q 0 (by rfl) (qCells (hdAsked (prsHd h) D.asked) D.asked a D.name.length cap D.t D.c).toList _ R8.out Try.underlying67 rfl Try.infoQuery17 ?_
          refine wpQuiet_nil ?_
          simp only [Act.put, List.setIfInBounds_toArray, List.set_cons_succ, List.set_cons_zero]
          repeat (refine wpV_q (by simp only [List.getElem?_toArray, List.getElem?_cons_succ, List.getElem?_cons_zero] <;> rfl) (by rfl) (by rfl) ?_; go_big_quiet_step (fail); refine wpQuiet_nil ?_)
          refine wpV_e (by simp only [List.getElem?_toArray, List.getElem?_cons_succ, List.getElem?_cons_zero] <;> rfl) (by rfl) ?_
          refine wpList_store_mid (by rfl) 67 _ _ (by rfl) W.heap.size 0 (qCells (hdAsked (prsHd h) D.asked) D.asked a D.name.length cap D.t D.c) (by rfl) (by rfl) TH.out Try.infoQuery17 (by rw [← Array.all_toList]; rfl) ?_
          refine wpList_nil ?_
          rw [← HWY.out]
          refine ⟨⟨⟨wy, FY.out⟩, rfl⟩, ?_⟩
          simp only [Act.put]
          repeat (refine wpV_q (by simp only [List.getElem?_toArray, List.getElem?_cons_succ, List.getElem?_cons_zero] <;> rfl) (by rfl) (by rfl) ?_; go_big_quiet_step (fail); refine wpQuiet_nil ?_)
          refine wpV_done ?_
          clear R8 x8 this TH HWY FY
          go_wp2_with fail
          refine bodyPost_ret (v := .tuple #[.agg (qCells (hdAsked (prsHd h) D.asked) D.asked a D.name.length cap D.t D.c), .int .i64 h.code, .bool h.trunc, .slice av L.length cv, .int .i64 0]) (by simp [results, Try.results41, Sem.run_bind, Result.andThen_ok, L6.out, A6.out]) rfl ?_
          exact (show prsE D h W _ _ from ⟨GY.out, a, cap, L, _, OY.out, HL5.out, RY.out, rfl⟩)
    · have d2 : (B2 == 0) = false := by simpa using e2
      have hok : ok = false := by rw [HPO.out, d2]; simp
      subst hok
      clear HPO hx happ
      go_upto_region 13 with fail
      obtain ⟨wy, hwy⟩ : ∃ v, v = w8.setCells W.heap.size 0 (Array.toList #[.int .u16 0, .bool false, .int .u8 0, .bool false, .bool false, .bool false, .bool false, .int .u8 0, .int .u8 0, .int .u16 0, .int .u16 0, .int .u16 0, .int .u16 0, .bool false, .slice none 0 0, .int .u16 0, .int .u16 0]) := ⟨_, rfl⟩
      have fy : Fr (fun k => k = W.heap.size) w8 wy := by rw [hwy]; exact fr_setCells _ _ _ _
      have by1 : wy.heap[W.heap.size]? = some (.cells #[.int .u16 0, .bool false, .int .u8 0, .bool false, .bool false, .bool false, .bool false, .int .u8 0, .int .u8 0, .int .u16 0, .int .u16 0, .int .u16 0, .int .u16 0, .bool false, .slice none 0 0, .int .u16 0, .int .u16 0] 67 (0, 0)) := by rw [hwy]; exact blk_all A8.out _ rfl
      have L6 : Hid ((loadVar 67 ⟨W.heap.size, 0, none⟩).run Try.prog wy = .ok (.agg #[.int .u16 0, .bool false, .int .u8 0, .bool false, .bool false, .bool false, .bool false, .int .u8 0, .int .u8 0, .int .u16 0, .int .u16 0, .int .u16 0, .int .u16 0, .bool false, .slice none 0 0, .int .u16 0, .int .u16 0]) wy) := Lib.hid (run_loadVar_mid wy W.heap.size 0 67 (Array.toList #[.int .u16 0, .bool false, .int .u8 0, .bool false, .bool false, .bool false, .bool false, .int .u8 0, .int .u8 0, .int .u16 0, .int .u16 0, .int .u16 0, .int .u16 0, .bool false, .slice none 0 0, .int .u16 0, .int .u16 0]) _ (blk_range by1) Try.underlying67 rfl Try.infoQuery17)
      have A6 : Hid ((asAddr (.pointer (some ⟨W.heap.size, 0, none⟩))).run Try.prog wy = .ok ⟨W.heap.size, 0, none⟩ wy) := Lib.hid (by simp [go_sem])
      have GY : Hid (Gr W wy) := Lib.hid (gr_of_new ((new_of_gr G8.out).trans fy (fun j h => .inl (by omega))))
      have HWY := Lib.hid hwy
      clear hwy fy by1
      refine wp_region_lit ?_
      refine wpList_qzero ?_
      refine wpList_store_mid (by rfl) 67 _ _ (by rfl) W.heap.size 0 #[.int .u16 0, .bool false, .int .u8 0, .bool false, .bool false, .bool false, .bool false, .int .u8 0, .int .u8 0, .int .u16 0, .int .u16 0, .int .u16 0, .int .u16 0, .bool false, .slice none 0 0, .int .u16 0, .int .u16 0] (by rfl) (by rfl) (blk_there A8.out _ (Nat.le_refl 17)) Try.infoQuery17 (by rw [← Array.all_toList]; rfl) ?_
      rw [← HWY.out]
      clear HWY
      go_wp2_with fail
      refine bodyPost_ret (v := .tuple #[.agg #[.int .u16 0, .bool false, .int .u8 0, .bool false, .bool false, .bool false, .bool false, .int .u8 0, .int .u8 0, .int .u16 0, .int .u16 0, .int .u16 0, .int .u16 0, .bool false, .slice none 0 0, .int .u16 0, .int .u16 0], .int .i64 0, .bool false, .slice none 0 0, .int .i64 4]) (by simp [results, Try.results41, Sem.run_bind, Result.andThen_ok, L6.out, A6.out]) rfl ⟨GY.out, rfl⟩
  · have d1 : (de == 0) = false := by simpa using e1
    have hok : ok = false := by rw [HPO.out, d1]; rfl
    subst hok
    clear HPO hx happ
    go_upto_region 13 with fail
    obtain ⟨wy, hwy⟩ : ∃ v, v = w8.setCells W.heap.size 0 (Array.toList #[.int .u16 0, .bool false, .int .u8 0, .bool false, .bool false, .bool false, .bool false, .int .u8 0, .int .u8 0, .int .u16 0, .int .u16 0, .int .u16 0, .int .u16 0, .bool false, .slice none 0 0, .int .u16 0, .int .u16 0]) := ⟨_, rfl⟩
    have fy : Fr (fun k => k = W.heap.size) w8 wy := by rw [hwy]; exact fr_setCells _ _ _ _
    have by1 : wy.heap[W.heap.size]? = some (.cells #[.int .u16 0, .bool false, .int .u8 0, .bool false, .bool false, .bool false, .bool false, .int .u8 0, .int .u8 0, .int .u16 0, .int .u16 0, .int .u16 0, .int .u16 0, .bool false, .slice none 0 0, .int .u16 0, .int .u16 0] 67 (0, 0)) := by rw [hwy]; exact blk_all A8.out _ rfl
    have L6 : Hid ((loadVar 67 ⟨W.heap.size, 0, none⟩).run Try.prog wy = .ok (.agg #[.int .u16 0, .bool false, .int .u8 0, .bool false, .bool false, .bool false, .bool false, .int .u8 0, .int .u8 0, .int .u16 0, .int .u16 0, .int .u16 0, .int .u16 0, .bool false, .slice none 0 0, .int .u16 0, .int .u16 0]) wy) := Lib.hid (run_loadVar_mid wy W.heap.size 0 67 (Array.toList #[.int .u16 0, .bool false, .int .u8 0, .bool false, .bool false, .bool false, .bool false, .int .u8 0, .int .u8 0, .int .u16 0, .int .u16 0, .int .u16 0, .int .u16 0, .bool false, .slice none 0 0, .int .u16 0, .int .u16 0]) _ (blk_range by1) Try.underlying67 rfl Try.infoQuery17)
    have A6 : Hid ((asAddr (.pointer (some ⟨W.heap.size, 0, none⟩))).run Try.prog wy = .ok ⟨W.heap.size, 0, none⟩ wy) := Lib.hid (by simp [go_sem])
    have GY : Hid (Gr W wy) := Lib.hid (gr_of_new ((new_of_gr G8.out).trans fy (fun j h => .inl (by omega))))
    have HWY := Lib.hid hwy
    clear hwy fy by1
    refine wp_region_lit ?_
    refine wpList_qzero ?_
    refine wpList_store_mid (by rfl) 67 _ _ (by rfl) W.heap.size 0 #[.int .u16 0, .bool false, .int .u8 0, .bool false, .bool false, .bool false, .bool false, .int .u8 0, .int .u8 0, .int .u16 0, .int .u16 0, .int .u16 0, .int .u16 0, .bool false, .slice none 0 0, .int .u16 0, .int .u16 0] (by rfl) (by rfl) (blk_there A8.out _ (Nat.le_refl 17)) Try.infoQuery17 (by rw [← Array.all_toList]; rfl) ?_
    rw [← HWY.out]
    clear HWY
    go_wp2_with fail
    refine bodyPost_ret (v := .tuple #[.agg #[.int .u16 0, .bool false, .int .u8 0, .bool false, .bool false, .bool false, .bool false, .int .u8 0, .int .u8 0, .int .u16 0, .int .u16 0, .int .u16 0, .int .u16 0, .bool false, .slice none 0 0, .int .u16 0, .int .u16 0], .int .i64 0, .bool false, .slice none 0 0, .int .i64 4]) (by simp [results, Try.results41, Sem.run_bind, Result.andThen_ok, L6.out, A6.out]) rfl ⟨GY.out, rfl⟩

theorem parse_any (s : List UInt8) (W : World) (hs : s.length ≤ 100000) : Calls Try.prog 41 #[.string ⟨s.toArray⟩] W (ParseEnd s W) := by
  unfold ParseEnd
  by_cases h12 : s.length < 12
  · simp only [if_pos h12]
    exact parse_short s W hs h12
  · simp only [if_neg h12]
    cases hr : (hdRead s).resp
    · simp only [if_true]
      exact parse_query s W hs h12 hr
    · simp only [Bool.true_eq_false, if_false]
      exact parse_main s W hs h12 hr
end Go.Proofs.Ytkclgemkeifbaaa
