/-
  Package query: counted, the closure that reads a question's type and class.
-/
import Derived.Test.YtkclgemkeifbaaaNmRd
import Derived.Test.YtkclgemkeifbaaaHeadR
import Derived.Deep.CutBlock
import Derived.Deep.CutRange
namespace Go.Proofs.Ytkclgemkeifbaaa
open Go.RowKit Go.Proofs

theorem get_drop (l : List UInt8) : ((getNum ((l.drop 2).take 2) : Nat) : Int) = numAt l 2 := rfl
theorem get_take (l : List UInt8) : ((getNum (l.take 2) : Nat) : Int) = numAt l 0 := rfl
/-- a block of one variable -/
abbrev Var1 (w : World) (b : Nat) (v : Value) : Prop := w.cell? ⟨b, 0, none⟩ = some v ∧ w.frozen? ⟨b, 0, none⟩ = false
theorem Var1.keep {S : Nat → Prop} {w w' : World} {b : Nat} {v : Value} (h : Var1 w b v) (f : Fr S w w') (hb : ¬ S b) : Var1 w' b v := ⟨f.cell h.1 hb, (f.frozen h.1 hb).trans h.2⟩
theorem Var1.set {w : World} {b : Nat} {v : Value} (h : Var1 w b v) (u : Value) : Var1 (w.setCell ⟨b, 0, none⟩ u) b u := ⟨World.cell?_setCell_same _ _ _ h.1, by rw [World.frozen?_setCell]; exact h.2⟩
theorem fr_put (w : World) (b o : Nat) (v : Value) : Fr (fun k => k = b) w (w.setCell ⟨b, o, none⟩ v) := (Fr.refl (fun k => k = b) w).setCell (p := ⟨b, o, none⟩) (.inl rfl) _

def Q1End (b t c : Nat) (l : List UInt8) (more : Bool) (w : World) (e : Ending) (w' : World) : Prop :=
  Fr (fun k => k = b ∨ k = t ∨ k = c) w w' ∧
  (4 ≤ l.length → e = .returned (.tuple #[]) ∧ RdL w' b (if more then [] else l.drop 4) ∧ w'.cell? ⟨t, 0, none⟩ = some (.int .u16 (numAt l 0)) ∧ w'.cell? ⟨c, 0, none⟩ = some (.int .u16 (numAt l 2))) ∧
  (l.length < 4 → e = .panicked [{ v := refused 2, recovered := false }])

set_option maxHeartbeats 4000000 in
set_option maxRecDepth 100000 in
theorem question1_any (b t c pq q : Nat) (l : List UInt8) (n : Int) (w : World) (hr : RdL w b l) (ht : Var1 w t (.int .u16 0)) (hc : Var1 w c (.int .u16 0)) (hp : w.cell? ⟨pq, 0, none⟩ = some (.pointer (some ⟨q, 0, none⟩))) (hq : w.cell? ⟨q, 12, none⟩ = some (.int .u16 n))
    (hn : 0 ≤ n) (d1 : b ≠ t) (d2 : b ≠ c) (d3 : t ≠ c) (d4 : pq ≠ b ∧ pq ≠ t ∧ pq ≠ c) (d5 : q ≠ b ∧ q ≠ t ∧ q ≠ c) (hl : l.length ≤ 100000) :
    Calls Try.prog 101 #[.pointer (some ⟨b, 0, none⟩), .pointer (some ⟨t, 0, none⟩), .pointer (some ⟨c, 0, none⟩), .pointer (some ⟨pq, 0, none⟩)] w (Q1End b t c l (decide (0 < n)) w) := by
  have HR := Lib.hid hr
  have HT := Lib.hid ht
  have HC := Lib.hid hc
  have HP := Lib.hid hp
  have HQ := Lib.hid hq
  clear hr ht hc hp hq
  obtain ⟨d4a, d4b, d4c⟩ := d4
  obtain ⟨d5a, d5b, d5c⟩ := d5
  by_cases l2 : l.length < 2
  · go_enter Try.func101, Try.ntmps101
    go_wp2_with fail
    refine (readNum_short b 2 l w HR.out (by omega) (by omega) (by omega) 2 rfl).mono ?_
    rintro e w' ⟨rfl, rfl⟩
    go_wp2_with fail
    exact ⟨rfl, Fr.refl _ _, fun h => by omega, fun _ => rfl⟩
  have n0 := numAt_range l 0
  have C1 := Lib.hid (readNum_ok b 2 l w HR.out (by omega) (by omega) (by omega) 2 rfl)
  rw [get_take] at C1
  obtain ⟨x0, hx0⟩ : ∃ x, x = numAt l 0 := ⟨_, rfl⟩
  rw [← hx0] at C1 n0
  have HX0 := Lib.hid hx0
  clear hx0
  go_enter Try.func101, Try.ntmps101
  go_wp2_with fail
  refine C1.out.mono ?_
  rintro e w1 ⟨rfl, r1, f1⟩
  have t1 := HT.out.keep f1 (by omega)
  have T1 := Lib.hid t1
  have C1' := Lib.hid (HC.out.keep f1 (by omega))
  have R1 := Lib.hid r1
  have F1 := Lib.hid f1
  obtain ⟨t1a, t1b⟩ := t1
  clear r1 f1 C1
  go_wp2_with fail
  obtain ⟨w2, hw2⟩ : ∃ w2, w2 = w1.setCell ⟨t, 0, none⟩ (.int .u16 x0) := ⟨_, rfl⟩
  rw [← hw2]
  have f2 : Fr (fun k => k = t) w1 w2 := by rw [hw2]; exact fr_put _ _ _ _
  have T2 : Hid (Var1 w2 t (.int .u16 x0)) := Lib.hid (by rw [hw2]; exact T1.out.set _)
  have C2 := Lib.hid (C1'.out.keep f2 (by omega))
  have R2 := Lib.hid (R1.out.keep f2 (by omega))
  have F2 : Hid (Fr (fun k => k = b ∨ k = t ∨ k = c) w w2) := Lib.hid ((F1.out.mono (T := fun k => k = b ∨ k = t ∨ k = c) (fun k _ h => .inl h)).trans f2 (fun k h => .inl (.inr (.inl h))))
  clear hw2 f2 T1 C1' R1 F1 t1a t1b
  by_cases l4 : l.length < 4
  · refine (readNum_short b 2 _ w2 R2.out (by omega) (by omega) (by simp; omega) 2 rfl).mono ?_
    rintro e w' ⟨rfl, rfl⟩
    go_wp2_with fail
    exact ⟨rfl, F2.out, fun h => by omega, fun _ => rfl⟩
  have n1 := numAt_range l 2
  have D1 := Lib.hid (readNum_ok b 2 _ w2 R2.out (by omega) (by omega) (by simp; omega) 2 rfl)
  rw [get_drop] at D1
  obtain ⟨x1, hx1⟩ : ∃ x, x = numAt l 2 := ⟨_, rfl⟩
  rw [← hx1] at D1 n1
  have HX1 := Lib.hid hx1
  clear hx1
  refine D1.out.mono ?_
  rintro e w3 ⟨rfl, r3, f3⟩
  have c3 := C2.out.keep f3 (by omega)
  have C3 := Lib.hid c3
  have T3 := Lib.hid (T2.out.keep f3 (by omega))
  have R3 := Lib.hid r3
  have F3 := Lib.hid (F2.out.trans f3 (fun k h => .inl (.inl h)))
  obtain ⟨c3a, c3b⟩ := c3
  clear r3 f3 D1 C2 T2 R2 F2
  have p3 := F3.out.cell HP.out (by simp only; omega)
  have q3 := F3.out.cell HQ.out (by simp only; omega)
  obtain ⟨w4, hw4⟩ : ∃ w4, w4 = w3.setCell ⟨c, 0, none⟩ (.int .u16 x1) := ⟨_, rfl⟩
  have f4 : Fr (fun k => k = c) w3 w4 := by rw [hw4]; exact fr_put _ _ _ _
  have C4 : Hid (Var1 w4 c (.int .u16 x1)) := Lib.hid (by rw [hw4]; exact C3.out.set _)
  have T4 := Lib.hid (T3.out.keep f4 (by omega))
  have R4 := Lib.hid (R3.out.keep f4 (by omega))
  have F4 := Lib.hid (F3.out.trans f4 (fun k h => .inl (.inr (.inr h))))
  have p4 := f4.cell p3 (by simp only; omega)
  have q4 := f4.cell q3 (by simp only; omega)
  have HW4 := Lib.hid hw4
  clear hw4 f4 C3 T3 R3 F3 p3 q3 HP HQ HR HT HC
  go_upto_region 2 with fail
  rw [← HW4.out]
  clear c3a c3b HW4
  obtain ⟨r, hr⟩ : ∃ r, r = (l.drop 2).drop 2 := ⟨_, rfl⟩
  rw [← hr] at R4
  have zr := mk_size r
  have hrl : r.length ≤ 100000 := by rw [hr]; simp; omega
  have HR4 : Hid (r = l.drop 4) := Lib.hid (by rw [hr, List.drop_drop])
  clear hr
  by_cases hm : 0 < n
  · go_wp2_with fail
    refine (readerLeft_any b _ w4 R4.out).mono ?_
    rintro e w5 ⟨rfl, rfl⟩
    go_wp2_with fail
    refine (readRaw_ok b r.length r w4 R4.out (Nat.le_refl _) _ rfl).mono ?_
    rintro e w5 ⟨rfl, r5, f5⟩
    rw [List.drop_length] at r5
    have T5 := Lib.hid (T4.out.keep f5 (by omega))
    have C5 := Lib.hid (C4.out.keep f5 (by omega))
    have F5 := Lib.hid (F4.out.trans f5 (fun k h => .inl (.inl h)))
    have R5 := Lib.hid r5
    clear r5 f5
    go_wp2_with fail
    go_end0
    exact ⟨F5.out, fun _ => ⟨rfl, by rw [decide_eq_true hm]; exact R5.out, by rw [← HX0.out]; exact T5.out.1, by rw [← HX1.out]; exact C5.out.1⟩, fun h => absurd h l4⟩
  · obtain rfl : n = 0 := by omega
    go_wp2_with fail
    go_end0
    exact ⟨F4.out, fun _ => ⟨rfl, by rw [← HR4.out]; exact R4.out, by rw [← HX0.out]; exact T4.out.1, by rw [← HX1.out]; exact C4.out.1⟩, fun h => absurd h l4⟩

def countedB (c0 c1 c2 : Int) : Bool := c0 == 1 && (c1 == 0 && c2 == 0)
set_option maxHeartbeats 1000000 in
set_option maxRecDepth 100000 in
theorem counted_any (c0 c1 c2 c3 : Int) (w : World) : Calls Try.prog 99 #[.agg #[.int .u16 c0, .int .u16 c1, .int .u16 c2, .int .u16 c3]] w fun e w' => e = .returned (.bool (countedB c0 c1 c2)) ∧ Gr w w' := by
  by_cases h0 : c0 = 1
  · by_cases h1 : c1 = 0
    · by_cases h2 : c2 = 0
      · subst h0 h1 h2
        go_enter Try.func99, Try.ntmps99
        go_wp2_with fail
        go_ret
        exact ⟨rfl, (Fr.refl _ _).alloc _⟩
      · have e2 : (c2 == 0) = false := by simpa using h2
        subst h0 h1
        have he : countedB 1 0 c2 = false := by unfold countedB; rw [e2]; rfl
        rw [he]
        go_enter Try.func99, Try.ntmps99
        go_wp2_with fail
        go_ret
        exact ⟨rfl, (Fr.refl _ _).alloc _⟩
    · have e1 : (c1 == 0) = false := by simpa using h1
      subst h0
      have he : countedB 1 c1 c2 = false := by unfold countedB; rw [e1]; rfl
      rw [he]
      go_enter Try.func99, Try.ntmps99
      go_wp2_with fail
      go_ret
      exact ⟨rfl, (Fr.refl _ _).alloc _⟩
  · have e0 : (c0 == 1) = false := by simpa using h0
    have he : countedB c0 c1 c2 = false := by unfold countedB; rw [e0]; rfl
    rw [he]
    go_enter Try.func99, Try.ntmps99
    go_wp2_with fail
    go_ret
    exact ⟨rfl, (Fr.refl _ _).alloc _⟩

/-- the cells of a query -/
abbrev qCells (h : Hd) (asked : Bool) (a : Option Addr) (n cap : Nat) (t c : Int) : Array Value := #[.int .u16 h.id, .bool h.resp, .int .u8 h.op, .bool h.auth, .bool h.trunc, .bool h.des, .bool h.avail, .int .u8 h.zero, .int .u8 h.code, .int .u16 h.c0, .int .u16 h.c1, .int .u16 h.c2, .int .u16 h.c3, .bool asked, .slice a n cap, .int .u16 t, .int .u16 c]
/-- the question behind a head: labels, type, class -/
def qQuest (s : List UInt8) : Option (List Lbl × Int × Int) :=
  if countedB (hdRead s).c0 (hdRead s).c1 (hdRead s).c2 = true then
    match rd s 12 12 [] with
    | .err _ => none
    | .ok l k => if (s.drop k).length < 4 then none else if 4 < (s.drop k).length ∧ (hdRead s).c3 ≤ 0 then none else some (l, numAt (s.drop k) 0, numAt (s.drop k) 2)
  else none
/-- what question leaves in the query's block -/
def QuestEnd (q : Nat) (h : Hd) (r : Option (List Lbl × Int × Int)) (w : World) (e : Ending) (w' : World) : Prop :=
  Fr (fun k => k = q) w w' ∧ match r with
  | none => e = .returned (.bool false) ∧ w'.heap[q]? = some (.cells (qCells h false none 0 0 0 0) 67 (0, 0))
  | some (l, t, c) => e = .returned (.bool true) ∧ ∃ v, w'.ownsRow w.heap.size 9 1 v l.length (strVs l) ∧ ∃ a cap, v = .slice a l.length cap ∧ w'.heap[q]? = some (.cells (qCells h true a l.length cap t c) 67 (0, 0))

set_option maxHeartbeats 4000000 in
set_option maxRecDepth 100000 in
theorem question_any (q : Nat) (s : List UInt8) (W : World) (hs12 : 12 ≤ s.length) (hs : s.length ≤ 100000) (hq : W.heap[q]? = some (.cells (qCells (hdRead s) false none 0 0 0 0) 67 (0, 0))) :
    Calls Try.prog 62 #[.pointer (some ⟨q, 0, none⟩), .string ⟨s.toArray⟩] W (QuestEnd q (hdRead s) (qQuest s) W) := by
  have hlt : q < W.heap.size := lt_of_cell (p := ⟨q, 0, none⟩) (v := .int .u16 (hdRead s).id) (by rw [Lib.cell_of_heap hq]; rfl)
  have hfit := (hdRead_fits s).c3.1
  obtain ⟨R, hR⟩ : ∃ R, R = qQuest s := ⟨_, rfl⟩
  rw [← hR]
  unfold qQuest at hR
  generalize hdRead s = h at *
  have HR := Lib.hid hR
  clear hR
  obtain ⟨w1, hw1⟩ : ∃ w1, w1 = W.alloc (.cells #[.pointer (some ⟨q, 0, none⟩)] 159) := ⟨_, rfl⟩
  have f1 : Gr W w1 := by rw [hw1]; exact (Fr.refl _ _).alloc _
  have B1 : Hid (w1.heap[q]? = some (.cells (qCells h false none 0 0 0 0) 67 (0, 0))) := Lib.hid (by rw [f1.block q hlt (fun h => h)]; exact hq)
  have p1 : w1.cell? ⟨W.heap.size, 0, none⟩ = some (.pointer (some ⟨q, 0, none⟩)) := by rw [World.cell?, hw1, heap_alloc_if, if_pos rfl]; rfl
  have c9 : w1.cell? ⟨q, 9, none⟩ = some (.int .u16 h.c0) := by rw [Lib.cell_of_heap B1.out]; rfl
  have c10 : w1.cell? ⟨q, 10, none⟩ = some (.int .u16 h.c1) := by rw [Lib.cell_of_heap B1.out]; rfl
  have c11 : w1.cell? ⟨q, 11, none⟩ = some (.int .u16 h.c2) := by rw [Lib.cell_of_heap B1.out]; rfl
  have c12 : w1.cell? ⟨q, 12, none⟩ = some (.int .u16 h.c3) := by rw [Lib.cell_of_heap B1.out]; rfl
  have hsz1 : w1.heap.size = W.heap.size + 1 := by rw [hw1]; simp
  have HW1 := Lib.hid hw1
  have F1 := Lib.hid f1
  have CC := Lib.hid (counted_any h.c0 h.c1 h.c2 h.c3 w1)
  clear hw1 f1 hq
  generalize countedB h.c0 h.c1 h.c2 = cb at *
  go_enter Try.func62, Try.ntmps62
  go_upto_region 1 with fail
  rw [← HW1.out]
  go_wp2_with fail
  refine CC.out.mono ?_
  rintro e w2 ⟨rfl, f2⟩
  have F2 := Lib.hid (Gr.trans F1.out f2)
  have B2 := Lib.hid (show w2.heap[q]? = some (.cells (qCells h false none 0 0 0 0) 67 (0, 0)) by rw [f2.block q (by omega) (fun h => h)]; exact B1.out)
  have p2 := f2.cell p1 (fun h => h)
  have hsz2 := f2.size
  clear f2 CC c9 c10 c11 c12 p1 B1 F1 HW1
  cases cb
  · go_wp2_with fail
    go_ret
    have hR : R = none := by have := HR.out; simpa using this
    subst hR
    exact ⟨Fr.mono (S := fun _ => False) F2.out (fun _ _ h => h.elim), rfl, B2.out⟩
  have CR := Lib.hid (nmRead_any s 12 hs12 hs w2)
  have HROK := Lib.hid (fun l k (h : rd s 12 12 [] = .ok l k) => rd_ok h mayL_nil)
  have HRE := Lib.hid (fun c (h : rd s 12 12 [] = .err c) => rd_err h)
  generalize rd s 12 12 [] = r at *
  go_wp2_with fail
  refine CR.out.mono ?_
  rintro e w3 ⟨f3, h3⟩
  have F3 := Lib.hid (Gr.trans F2.out f3)
  have B3 := Lib.hid (show w3.heap[q]? = some (.cells (qCells h false none 0 0 0 0) 67 (0, 0)) by rw [f3.block q (by omega) (fun h => h)]; exact B2.out)
  have p3 := f3.cell p2 (fun h => h)
  have hsz3 := f3.size
  clear f3 CR p2 B2 F2
  cases r with
  | err c =>
    simp only at h3
    subst h3
    have hc : (c == 0) = false := by rcases HRE.out c rfl with rfl | rfl | rfl | rfl <;> rfl
    go_wp2_with fail
    go_ret
    have hR : R = none := by have := HR.out; simpa using this
    subst hR
    exact ⟨Fr.mono (S := fun _ => False) F3.out (fun _ _ h => h.elim), rfl, B3.out⟩
  | ok l k =>
    obtain ⟨v, rfl, o3⟩ := h3
    obtain ⟨hml, hk12, hks⟩ := HROK.out l k rfl
    have O3 := Lib.hid o3
    have hx := ext_all s k
    have zs := mk_size s
    clear o3 HROK HRE
    have hmf : ∀ (fn : Fn) (first cap : Array Value) (w : World), (Instr.makeFunc fn first cap).run Try.prog w = .ok (.func fn first cap) w := fun _ _ _ _ => rfl
    obtain ⟨w4, hw4⟩ : ∃ w4, w4 = (w3.alloc (.cells #[.int .u16 0] 61)).alloc (.cells #[.int .u16 0] 61) := ⟨_, rfl⟩
    have f4 : Gr w3 w4 := by rw [hw4]; exact ((Fr.refl _ _).alloc _).alloc _
    have s4 : w4.heap.size = w3.heap.size + 2 := by rw [hw4]; simp
    have b4 : w4.heap[w3.heap.size]? = some (.cells #[.int .u16 0] 61 (0, 0)) := by rw [hw4, heap_alloc_if, if_neg (by simp), heap_alloc_if, if_pos rfl]
    have b5 : w4.heap[w3.heap.size + 1]? = some (.cells #[.int .u16 0] 61 (0, 0)) := by rw [hw4, heap_alloc_if, if_pos (by simp)]
    have F4 := Lib.hid (Gr.trans F3.out f4)
    have B4 := Lib.hid (show w4.heap[q]? = some (.cells (qCells h false none 0 0 0 0) 67 (0, 0)) by rw [f4.block q (by omega) (fun h => h)]; exact B3.out)
    have p4 := f4.cell p3 (fun h => h)
    have O3' := O3
    have O4 := Lib.hid (own_fr O3.out f4 (fun _ _ h => h))
    obtain ⟨L, hL⟩ : ∃ L, L = s.drop k := ⟨_, rfl⟩
    have hLl : L.length ≤ 100000 := by rw [hL]; simp; omega
    rw [← hL] at hx
    have HR2 : Hid (R = if L.length < 4 then none else if 4 < L.length ∧ h.c3 ≤ 0 then none else some (l, numAt L 0, numAt L 2)) := Lib.hid (by have := HR.out; simp only [if_true] at this; rw [hL]; exact this)
    clear HR hL
    have hcall := packRead_any ⟨L.toArray⟩ 101 #[.pointer (some ⟨w3.heap.size, 0, none⟩), .pointer (some ⟨w3.heap.size + 1, 0, none⟩), .pointer (some ⟨W.heap.size, 0, none⟩)] w4 (fun j => j = w3.heap.size ∨ j = w3.heap.size + 1)
      (fun x w' => (4 ≤ L.length → x = .ok ⟨(if decide (0 < h.c3) then [] else L.drop 4).toArray⟩ ∧ w'.cell? ⟨w3.heap.size, 0, none⟩ = some (.int .u16 (numAt L 0)) ∧ w'.cell? ⟨w3.heap.size + 1, 0, none⟩ = some (.int .u16 (numAt L 2))) ∧ (L.length < 4 → x = .ref 2))
      (by rw [mk_size]; omega) (fun a w => enters_fn Try.func101 (by kernel_rfl) rfl _ w) (fun j h => by omega)
      (fun w hfw hrd => (question1_any (w4.heap.size + 1) w3.heap.size (w3.heap.size + 1) W.heap.size q L h.c3 w hrd
          (Var1.keep ⟨by rw [Lib.cell_of_heap b4]; rfl, Lib.frozen_of_heap b4 0⟩ hfw (fun h => h)) (Var1.keep ⟨by rw [Lib.cell_of_heap b5]; rfl, Lib.frozen_of_heap b5 0⟩ hfw (fun h => h))
          (hfw.cell p4 (fun h => h)) (hfw.cell (by rw [Lib.cell_of_heap B4.out]; rfl) (fun h => h)) hfit (by omega) (by omega) (by omega) (by omega) (by omega) hLl).mono (by
        rintro e w' ⟨a, b, c⟩
        refine ⟨a.mono (fun j _ hj => by rcases hj with hj | hj; left; unfold wS; omega; right; exact hj), ?_⟩
        by_cases h4 : 4 ≤ L.length
        · obtain ⟨b1, b2, b3, b4⟩ := b h4
          subst b1
          exact ⟨_, .ok _ b2, fun _ => ⟨rfl, b3, b4⟩, fun h => by omega⟩
        · have c1 := c (by omega)
          subst c1
          exact ⟨_, .ref 2 (by decide), fun h => absurd h h4, fun _ => rfl⟩))
    have HC := Lib.hid hcall
    have HW4 := Lib.hid hw4
    clear hcall f4 b4 b5 p3 F3 B3 O3 hw4
    go_wp2_with fail
    rw [← HW4.out]
    refine HC.out.mono ?_
    rintro e w5 ⟨w0, x, ⟨g1, g2⟩, rfl, f05, hs5, f5⟩
    clear HC HW4
    have f5' : Fr (fun j => W.heap.size < j) w4 w5 := f5.mono (fun j _ hj => by rcases hj with hj | hj | hj <;> omega)
    have F5 := Lib.hid (Fr.trans (Fr.mono (T := fun j => W.heap.size < j) F4.out (fun _ _ h => h.elim)) f5' (fun j h => .inl h))
    have B5 := Lib.hid (show w5.heap[q]? = some (.cells (qCells h false none 0 0 0 0) 67 (0, 0)) by rw [f5'.block q (by omega) (by omega)]; exact B4.out)
    have FB := Lib.hid (F5.out.mono (T := fun j => j = q) (fun j h1 h2 => by omega))
    by_cases h4 : L.length < 4
    · have hx2 := g2 h4
      subst hx2
      have hR : R = none := by rw [HR2.out, if_pos h4]
      subst hR
      show (match ROut.ending (ROut.ref 2), w5 with | _, _ => _)
      unfold ROut.ending
      go_wp2_with fail
      go_ret
      exact ⟨FB.out, rfl, B5.out⟩
    obtain ⟨hx1, gt, gc⟩ := g1 (by omega)
    subst hx1
    clear g1 g2
    by_cases hb : 4 < L.length ∧ h.c3 ≤ 0
    · have hR : R = none := by rw [HR2.out, if_neg h4, if_pos hb]
      subst hR
      have he : ROut.ending (ROut.ok ⟨(if decide (0 < h.c3) then [] else L.drop 4).toArray⟩) = .returned (.int .i64 3) := by
        have h1 : decide (0 < h.c3) = false := decide_eq_false (by omega)
        rw [h1]
        show Ending.returned (.int .i64 (if (ByteArray.mk (L.drop 4).toArray).size = 0 then 0 else 3)) = _
        rw [mk_size, if_neg (by simp; omega)]
      rw [he]
      clear he
      go_wp2_with fail
      go_ret
      exact ⟨FB.out, rfl, B5.out⟩
    have he : ROut.ending (ROut.ok ⟨(if decide (0 < h.c3) then [] else L.drop 4).toArray⟩) = .returned (.int .i64 0) := by
      by_cases h1 : 0 < h.c3
      · rw [decide_eq_true h1]; rfl
      · have h2 : L.length = 4 := by omega
        rw [decide_eq_false h1]
        show Ending.returned (.int .i64 (if (ByteArray.mk (L.drop 4).toArray).size = 0 then 0 else 3)) = _
        rw [mk_size, if_pos (by simp; omega)]
    have HR3 : Hid (R = some (l, numAt L 0, numAt L 2)) := Lib.hid (by rw [HR2.out, if_neg h4, if_neg hb])
    rw [he]
    clear he HR2
    have t5 := f05.cell gt (by simp only; omega)
    have u5 := f05.cell gc (by simp only; omega)
    have p5 := f5.cell p4 (by simp only; omega)
    have O5 := Lib.hid (own_fr O4.out f5 (fun j hj hs => by have h1 := (O3'.out.lt j hj).2; omega))
    obtain ⟨a, cap, rfl, -⟩ := SlA.of_own O5.out
    generalize numAt L 0 = n0 at *
    generalize numAt L 2 = n2 at *
    go_wp2_with fail
    haveI : Nonempty (WC (Fr (fun j => j = q) w5)) := ⟨⟨w5, Fr.refl _ _⟩⟩
    have y0 : ∀ z : WC (Fr (fun j => j = q) w5), z.val.cell? ⟨W.heap.size, 0, none⟩ = some (.pointer (some ⟨q, 0, none⟩)) := fun z => z.ok.cell p5 (by simp only; omega)
    have y1 : ∀ z : WC (Fr (fun j => j = q) w5), z.val.cell? ⟨w3.heap.size, 0, none⟩ = some (.int .u16 n0) := fun z => z.ok.cell t5 (by simp only; omega)
    have y2 : ∀ z : WC (Fr (fun j => j = q) w5), z.val.cell? ⟨w3.heap.size + 1, 0, none⟩ = some (.int .u16 n2) := fun z => z.ok.cell u5 (by simp only; omega)
    have x0 : w5.cell? ⟨q, 13, none⟩ = some (.bool false) := by rw [Lib.cell_of_heap B5.out]; rfl
    have x1 : w5.cell? ⟨q, 14, none⟩ = some (.slice none 0 0) := by rw [Lib.cell_of_heap B5.out]; rfl
    have x2 : w5.cell? ⟨q, 15, none⟩ = some (.int .u16 0) := by rw [Lib.cell_of_heap B5.out]; rfl
    have x3 : w5.cell? ⟨q, 16, none⟩ = some (.int .u16 0) := by rw [Lib.cell_of_heap B5.out]; rfl
    have z0 : w5.frozen? ⟨q, 13, none⟩ = false := Lib.frozen_of_heap B5.out 13
    have z1 : w5.frozen? ⟨q, 14, none⟩ = false := Lib.frozen_of_heap B5.out 14
    have z2 : w5.frozen? ⟨q, 15, none⟩ = false := Lib.frozen_of_heap B5.out 15
    have z3 : w5.frozen? ⟨q, 16, none⟩ = false := Lib.frozen_of_heap B5.out 16
    have g0 := (Fr.refl (fun j => j = q) w5).setCell (p := ⟨q, 13, none⟩) (.inl rfl) (.bool true)
    have g1 := g0.setCell (p := ⟨q, 14, none⟩) (.inl rfl) (.slice a l.length cap)
    have g2 := g1.setCell (p := ⟨q, 15, none⟩) (.inl rfl) (.int .u16 n0)
    have g3 := g2.setCell (p := ⟨q, 16, none⟩) (.inl rfl) (.int .u16 n2)
    have hb6 := blk_set (blk_set (blk_set (blk_set B5.out 13 (.bool true)) 14 (.slice a l.length cap)) 15 (.int .u16 n0)) 16 (.int .u16 n2)
    have G0 := Lib.hid g0
    have G1 := Lib.hid g1
    have G2 := Lib.hid g2
    have G3 := Lib.hid g3
    have B6 := Lib.hid hb6
    clear g0 g1 g2 g3 hb6 t5 u5 p5 f5 f5' f05
    refine wp_region_plan [9, 12, 15, 18] (Plan.seq (List.range 19) .done) (fun w' => ∃ z : WC (Fr (fun j => j = q) w5), w' = z.val) (by kernel_rfl) (by kernel_rfl) (fun c a w d v h => by cases d <;> exact h) (fun c a w d v h => by cases d <;> exact h) ⟨⟨w5.drew, (Fr.refl _ _).drew⟩, rfl⟩ ?_
    simp only [Plan.seq, List.range, List.range.loop, List.foldr]
    repeat (refine wpV_q (by simp only [List.getElem?_toArray, List.getElem?_cons_succ, List.getElem?_cons_zero] <;> rfl) (by rfl) (by rfl) ?_; go_big_quiet_step (fail); refine wpQuiet_nil ?_)
    refine wpV_e (by simp only [List.getElem?_toArray, List.getElem?_cons_succ, List.getElem?_cons_zero] <;> rfl) (by rfl) ?_
    go_wp2_with fail
    refine ⟨⟨⟨_, G0.out.drew⟩, rfl⟩, ?_⟩
    repeat (refine wpV_q (by simp only [List.getElem?_toArray, List.getElem?_cons_succ, List.getElem?_cons_zero] <;> rfl) (by rfl) (by rfl) ?_; go_big_quiet_step (fail); refine wpQuiet_nil ?_)
    refine wpV_e (by simp only [List.getElem?_toArray, List.getElem?_cons_succ, List.getElem?_cons_zero] <;> rfl) (by rfl) ?_
    go_wp2_with fail
    refine ⟨⟨⟨_, G1.out.drew⟩, rfl⟩, ?_⟩
    repeat (refine wpV_q (by simp only [List.getElem?_toArray, List.getElem?_cons_succ, List.getElem?_cons_zero] <;> rfl) (by rfl) (by rfl) ?_; go_big_quiet_step (fail); refine wpQuiet_nil ?_)
    refine wpV_e (by simp only [List.getElem?_toArray, List.getElem?_cons_succ, List.getElem?_cons_zero] <;> rfl) (by rfl) ?_
    go_wp2_with fail
    refine ⟨⟨⟨_, G2.out.drew⟩, rfl⟩, ?_⟩
    repeat (refine wpV_q (by simp only [List.getElem?_toArray, List.getElem?_cons_succ, List.getElem?_cons_zero] <;> rfl) (by rfl) (by rfl) ?_; go_big_quiet_step (fail); refine wpQuiet_nil ?_)
    refine wpV_e (by simp only [List.getElem?_toArray, List.getElem?_cons_succ, List.getElem?_cons_zero] <;> rfl) (by rfl) ?_
    go_wp2_with fail
    refine ⟨⟨⟨_, G3.out.drew⟩, rfl⟩, ?_⟩
    refine wpV_done ?_
    clear y0 y1 y2
    go_wp2_with fail
    go_ret
    rw [HR3.out]
    refine ⟨FB.out.trans G3.out.drew (fun j h => .inl h), rfl, _, own_base (own_fr O5.out G3.out.drew ?_) ?_, a, cap, rfl, ?_⟩
    · intro j hj hs
      have := (O5.out.lt j hj).1
      omega
    · omega
    · exact B6.out
end Go.Proofs.Ytkclgemkeifbaaa
