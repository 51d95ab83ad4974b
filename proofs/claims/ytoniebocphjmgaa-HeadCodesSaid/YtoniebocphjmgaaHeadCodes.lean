/-
  The walk of HeadCodes.
-/
import Derived.Test.YtoniebocphjmgaaHeadReads
import Derived.Test.YtoniebocphjmgaaRegionY
namespace Go.Proofs.Ytoniebocphjmgaa
open Go.RowKit Go.Proofs

structure LHd where
  id : Int
  op : Int
  zero : Int
  code : Int
  bits : Int
  c0 : Int
  c1 : Int
  c2 : Int
  c3 : Int
structure LHd.Fits (x : LHd) : Prop where
  id : 0 ≤ x.id ∧ x.id ≤ 65535
  op : 0 ≤ x.op ∧ x.op ≤ 255
  zero : 0 ≤ x.zero ∧ x.zero ≤ 255
  code : 0 ≤ x.code ∧ x.code ≤ 255
  bits : 0 ≤ x.bits ∧ x.bits ≤ 255
  c0 : 0 ≤ x.c0 ∧ x.c0 ≤ 65535
  c1 : 0 ≤ x.c1 ∧ x.c1 ≤ 65535
  c2 : 0 ≤ x.c2 ∧ x.c2 ≤ 65535
  c3 : 0 ≤ x.c3 ∧ x.c3 ≤ 65535
def LHd.val (x : LHd) : Value := .agg #[.int .u16 x.id, .int .u8 x.op, .int .u8 x.zero, .int .u8 x.code, .int .u8 x.bits, .int .u16 x.c0, .int .u16 x.c1, .int .u16 x.c2, .int .u16 x.c3]

theorem Fr.undrew0 {S : Nat → Prop} {a w : World} (h : Fr S a.drew w) : Fr S a w := ⟨h.os, h.tape, h.output, h.size, h.block⟩
theorem cat_two (a b : List UInt8) : (ByteArray.mk a.toArray) ++ (ByteArray.mk b.toArray) = ⟨(a ++ b).toArray⟩ := by
  apply ByteArray.ext; simp
theorem cat_list (a : List UInt8) (s : ByteArray) : (ByteArray.mk a.toArray) ++ s = ⟨(a ++ s.data.toList).toArray⟩ := by
  apply ByteArray.ext; simp
theorem numAt_app (a b : List UInt8) (i : Nat) (h : i = a.length) : numAt (a ++ b) i = numAt b 0 := by
  subst h; unfold numAt; simp
theorem numAt_two (n : Int) (h0 : 0 ≤ n) (h1 : n ≤ 65535) (b : List UInt8) : numAt (two n ++ b) 0 = n := by
  unfold numAt
  rw [List.drop_zero, List.take_left' (two_length n)]
  unfold two
  rw [getNum_bigEnd (by simp; omega)]; omega

theorem hdOf_flags (h : Hd) (hf : h.Fits) (hb : ¬ h.bad) : hdOf h.id h.flags h.c0 h.c1 h.c2 h.c3 = h := by
  obtain ⟨id, resp, op, auth, trunc, des, avail, zero, code, c0, c1, c2, c3⟩ := h
  have a0 := hf.op
  have a1 := hf.zero
  have a2 := hf.code
  unfold Hd.bad at hb
  simp only at a0 a1 a2 hb
  unfold hdOf Hd.flags Hd.fl
  simp only [bitI]
  cases resp <;> cases auth <;> cases trunc <;> cases des <;> cases avail <;> simp <;> omega

theorem hdRead_app (h : Hd) (hf : h.Fits) (hb : ¬ h.bad) (t : List UInt8) : hdRead (h.bytes ++ t) = h := by
  obtain ⟨g1, g2, g3⟩ : h.op ≤ 15 ∧ h.code ≤ 15 ∧ h.zero ≤ 7 := by unfold Hd.bad at hb; omega
  have hfl : 0 ≤ h.flags ∧ h.flags < 65536 := fl_range h hf g1 g3 g2 4
  have e : h.bytes ++ t = two h.id ++ (two h.flags ++ (two h.c0 ++ (two h.c1 ++ (two h.c2 ++ (two h.c3 ++ t))))) := by
    simp [Hd.bytes, Hd.part, Hd.cs]
  have n0 : numAt (h.bytes ++ t) 0 = h.id := by rw [e]; exact numAt_two _ hf.id.1 hf.id.2 _
  have n2 : numAt (h.bytes ++ t) 2 = h.flags := by
    rw [e, numAt_app _ _ 2 (two_length _).symm]; exact numAt_two _ hfl.1 (by omega) _
  have n4 : numAt (h.bytes ++ t) 4 = h.c0 := by
    rw [e, ← List.append_assoc, numAt_app _ _ 4 (by simp [two_length])]; exact numAt_two _ hf.c0.1 hf.c0.2 _
  have n6 : numAt (h.bytes ++ t) 6 = h.c1 := by
    rw [e, ← List.append_assoc, ← List.append_assoc, numAt_app _ _ 6 (by simp [two_length])]; exact numAt_two _ hf.c1.1 hf.c1.2 _
  have n8 : numAt (h.bytes ++ t) 8 = h.c2 := by
    rw [e, ← List.append_assoc, ← List.append_assoc, ← List.append_assoc, numAt_app _ _ 8 (by simp [two_length])]; exact numAt_two _ hf.c2.1 hf.c2.2 _
  have n10 : numAt (h.bytes ++ t) 10 = h.c3 := by
    rw [e, ← List.append_assoc, ← List.append_assoc, ← List.append_assoc, ← List.append_assoc, numAt_app _ _ 10 (by simp [two_length])]; exact numAt_two _ hf.c3.1 hf.c3.2 _
  unfold hdRead
  rw [n0, n2, n4, n6, n8, n10]
  exact hdOf_flags h hf hb

set_option maxHeartbeats 4000000 in
set_option maxRecDepth 100000 in
theorem headCodes_walk (x : LHd) (s : ByteArray) (W : World) (hx : x.Fits) (hs : s.size ≤ 9223372036854775807) :
    Calls Try.prog 10 #[x.val, .string s] W fun e w' => e = .returned (.bool true) ∧ Below W.heap.size W w' := by
  have heq := fun (w : World) (a0 a1 a2 a3 b0 b1 b2 b3 : Int) => eql_u16x4 w 9997 a0 a1 a2 a3 b0 b1 b2 b3
  have HX := Lib.hid hx
  obtain ⟨m, hms, hm40, hitem, hminm⟩ : ∃ m : Nat, m ≤ s.size ∧ m ≤ 20 ∧ (if (20 : Int) < (s.size : Int) then (20 : Int) else (s.size : Int)) = (m : Int) ∧ min (s.size : Int) 20 = (m : Int) :=
    ⟨min s.size 20, by omega, by omega, by split <;> omega, by omega⟩
  obtain ⟨w1, hw1⟩ : ∃ w1, w1 = W.alloc (.cells #[.int .u16 x.id, .int .u8 x.op, .int .u8 x.zero, .int .u8 x.code, .int .u8 x.bits, .int .u16 x.c0, .int .u16 x.c1, .int .u16 x.c2, .int .u16 x.c3] 69) := ⟨_, rfl⟩
  have hb1 : w1.heap[W.heap.size]? = some (.cells #[.int .u16 x.id, .int .u8 x.op, .int .u8 x.zero, .int .u8 x.code, .int .u8 x.bits, .int .u16 x.c0, .int .u16 x.c1, .int .u16 x.c2, .int .u16 x.c3] 69 (0, 0)) := by rw [hw1, heap_alloc_if, if_pos rfl]
  have hf1 : Fr (fun _ => False) W w1 := by rw [hw1]; exact (Fr.refl _ _).alloc _
  have hs1 : W.heap.size < w1.heap.size := by rw [hw1]; simp
  obtain ⟨hx1, hx2, hx3, hx4, hx5, hx6, hx7, hx8, hx9⟩ := hx
  unfold LHd.val
  go_enter Try.func10, Try.ntmps10
  go_wp2_with fail
  rw [← hw1]
  refine (speaks22_any w1).mono ?_
  rintro e w2 ⟨rfl, hf2⟩
  have hb2 : w2.heap[W.heap.size]? = some (.cells #[.int .u16 x.id, .int .u8 x.op, .int .u8 x.zero, .int .u8 x.code, .int .u8 x.bits, .int .u16 x.c0, .int .u16 x.c1, .int .u16 x.c2, .int .u16 x.c3] 69 (0, 0)) := by
    rw [hf2.block _ hs1 (fun h => h)]; exact hb1
  have i0 : w2.cell? ⟨W.heap.size, 0, none⟩ = some (.int .u16 x.id) := by rw [Lib.cell_of_heap hb2]; rfl
  have i1 : w2.cell? ⟨W.heap.size, 1, none⟩ = some (.int .u8 x.op) := by rw [Lib.cell_of_heap hb2]; rfl
  have i2 : w2.cell? ⟨W.heap.size, 2, none⟩ = some (.int .u8 x.zero) := by rw [Lib.cell_of_heap hb2]; rfl
  have i3 : w2.cell? ⟨W.heap.size, 3, none⟩ = some (.int .u8 x.code) := by rw [Lib.cell_of_heap hb2]; rfl
  have i4 : w2.cell? ⟨W.heap.size, 4, none⟩ = some (.int .u8 x.bits) := by rw [Lib.cell_of_heap hb2]; rfl
  have i5 : w2.cell? ⟨W.heap.size, 5, none⟩ = some (.int .u16 x.c0) := by rw [Lib.cell_of_heap hb2]; rfl
  have i6 : w2.cell? ⟨W.heap.size, 6, none⟩ = some (.int .u16 x.c1) := by rw [Lib.cell_of_heap hb2]; rfl
  have i7 : w2.cell? ⟨W.heap.size, 7, none⟩ = some (.int .u16 x.c2) := by rw [Lib.cell_of_heap hb2]; rfl
  have i8 : w2.cell? ⟨W.heap.size, 8, none⟩ = some (.int .u16 x.c3) := by rw [Lib.cell_of_heap hb2]; rfl
  have F2 := Lib.hid (hf1.trans hf2 (fun _ h => h.elim))
  have hs2 := hf2.size
  clear hf1 hf2 hw1 hb1
  go_wp2_with fail
  generalize decide (0 < bits .and .u8 x.bits 1) = b1 at *
  generalize decide (0 < bits .and .u8 x.bits 2) = b2 at *
  generalize decide (0 < bits .and .u8 x.bits 4) = b4 at *
  generalize decide (0 < bits .and .u8 x.bits 8) = b8 at *
  generalize decide (0 < bits .and .u8 x.bits 16) = b16 at *
  obtain ⟨h, hh⟩ : ∃ h : Hd, h = ⟨x.id, b1, x.op, b2, b4, b8, b16, x.zero, x.code, x.c0, x.c1, x.c2, x.c3⟩ := ⟨_, rfl⟩
  have hfit : h.Fits := by subst hh; exact ⟨hx1, hx2, hx3, hx4, hx6, hx7, hx8, hx9⟩
  have hcall := headEncode_any h hfit (w2.alloc (.cells h.cells.toArray 71))
  have hval : h.val = .agg #[.int .u16 x.id, .bool b1, .int .u8 x.op, .bool b2, .bool b4, .bool b8, .bool b16, .int .u8 x.zero, .int .u8 x.code, .int .u16 x.c0, .int .u16 x.c1, .int .u16 x.c2, .int .u16 x.c3] := by subst hh; rfl
  have hcel : h.cells.toArray = #[.int .u16 x.id, .bool b1, .int .u8 x.op, .bool b2, .bool b4, .bool b8, .bool b16, .int .u8 x.zero, .int .u8 x.code, .int .u16 x.c0, .int .u16 x.c1, .int .u16 x.c2, .int .u16 x.c3] := by subst hh; rfl
  rw [hval, hcel] at hcall
  refine hcall.mono ?_
  clear hcall
  rintro e w3 ⟨he, hf3⟩
  have HF3 := Lib.hid hf3
  have FA : Hid (Fr (fun _ => False) W w3) := (F2.out.alloc _).trans hf3 (fun _ h => h.elim)
  have FB : Hid (Fr (fun _ => False) w2 w3) := ((Fr.refl _ _).alloc _).trans hf3 (fun _ h => h.elim)
  have hs3 := hf3.size
  simp only [World.size_alloc] at hs3
  have hhb : w3.heap[w2.heap.size]? = some (.cells h.cells.toArray 71 (0, 0)) := by
    rw [hf3.block _ (by simp) (fun h => h), heap_alloc_if, if_pos rfl, hcel]
  have HH := Lib.hid hh; clear hh
  have HHB := Lib.hid hhb; clear hhb hf3
  have HVAL := Lib.hid hval; clear hval
  have HCEL := Lib.hid hcel; clear hcel
  have j0 : w3.cell? ⟨W.heap.size, 0, none⟩ = some (.int .u16 x.id) := FB.out.cell i0 (fun h => h)
  have j1 : w3.cell? ⟨W.heap.size, 1, none⟩ = some (.int .u8 x.op) := FB.out.cell i1 (fun h => h)
  have j2 : w3.cell? ⟨W.heap.size, 2, none⟩ = some (.int .u8 x.zero) := FB.out.cell i2 (fun h => h)
  have j3 : w3.cell? ⟨W.heap.size, 3, none⟩ = some (.int .u8 x.code) := FB.out.cell i3 (fun h => h)
  clear i0 i1 i2 i3 i4
  by_cases hbad : h.bad
  · have hout : hdOut h = .ref 11 := by unfold hdOut; rw [if_pos hbad]
    rw [hout] at he
    have he' : e = .returned (.tuple #[.string ⟨#[]⟩, .int .i64 11]) := he
    clear he hout
    subst he'
    have hb' : 15 < x.op ∨ 15 < x.code ∨ 7 < x.zero := by rw [HH.out] at hbad; exact hbad
    clear hbad
    by_cases q1 : 15 < x.op
    · clear hb'
      go_wp2_with fail
      go_ret
      exact ⟨rfl, Fr.below (Below.refl _ _) FA.out (Nat.le_refl _) (fun k h => h.elim)⟩
    · by_cases q2 : 15 < x.code
      · clear hb'
        go_wp2_with fail
        go_ret
        exact ⟨rfl, Fr.below (Below.refl _ _) FA.out (Nat.le_refl _) (fun k h => h.elim)⟩
      · have q3 : 7 < x.zero := by omega
        clear hb'
        go_wp2_with fail
        go_ret
        exact ⟨rfl, Fr.below (Below.refl _ _) FA.out (Nat.le_refl _) (fun k h => h.elim)⟩
  · have hout : hdOut h = .ok h.bytes := by unfold hdOut; rw [if_neg hbad]
    rw [hout] at he
    have he' : e = .returned (.tuple #[.string ⟨h.bytes.toArray⟩, .int .i64 0]) := he
    clear he hout
    subst he'
    obtain ⟨q1, q2, q3⟩ : x.op ≤ 15 ∧ x.code ≤ 15 ∧ x.zero ≤ 7 := by rw [HH.out] at hbad; unfold Hd.bad at hbad; simp only at hbad; omega
    have HBAD := Lib.hid hbad; clear hbad
    haveI : Nonempty (WC (Fr (fun _ => False) w3)) := ⟨⟨w3, Fr.refl _ _⟩⟩
    have y0 : ∀ z : WC (Fr (fun _ => False) w3), z.val.cell? ⟨W.heap.size, 0, none⟩ = some (.int .u16 x.id) := fun z => z.ok.cell j0 (fun h => h)
    have y1 : ∀ z : WC (Fr (fun _ => False) w3), z.val.cell? ⟨W.heap.size, 1, none⟩ = some (.int .u8 x.op) := fun z => z.ok.cell j1 (fun h => h)
    have y2 : ∀ z : WC (Fr (fun _ => False) w3), z.val.cell? ⟨W.heap.size, 2, none⟩ = some (.int .u8 x.zero) := fun z => z.ok.cell j2 (fun h => h)
    have y3 : ∀ z : WC (Fr (fun _ => False) w3), z.val.cell? ⟨W.heap.size, 3, none⟩ = some (.int .u8 x.code) := fun z => z.ok.cell j3 (fun h => h)
    have k1 : w3.cell? ⟨w2.heap.size, 1, none⟩ = some (.bool b1) := by rw [Lib.cell_of_heap HHB.out, HCEL.out]; rfl
    have k3 : w3.cell? ⟨w2.heap.size, 3, none⟩ = some (.bool b2) := by rw [Lib.cell_of_heap HHB.out, HCEL.out]; rfl
    have k4 : w3.cell? ⟨w2.heap.size, 4, none⟩ = some (.bool b4) := by rw [Lib.cell_of_heap HHB.out, HCEL.out]; rfl
    have k5 : w3.cell? ⟨w2.heap.size, 5, none⟩ = some (.bool b8) := by rw [Lib.cell_of_heap HHB.out, HCEL.out]; rfl
    have k6 : w3.cell? ⟨w2.heap.size, 6, none⟩ = some (.bool b16) := by rw [Lib.cell_of_heap HHB.out, HCEL.out]; rfl
    have z1 : ∀ z : WC (Fr (fun _ => False) w3), z.val.cell? ⟨w2.heap.size, 1, none⟩ = some (.bool b1) := fun z => z.ok.cell k1 (fun h => h)
    have z3 : ∀ z : WC (Fr (fun _ => False) w3), z.val.cell? ⟨w2.heap.size, 3, none⟩ = some (.bool b2) := fun z => z.ok.cell k3 (fun h => h)
    have z4 : ∀ z : WC (Fr (fun _ => False) w3), z.val.cell? ⟨w2.heap.size, 4, none⟩ = some (.bool b4) := fun z => z.ok.cell k4 (fun h => h)
    have z5 : ∀ z : WC (Fr (fun _ => False) w3), z.val.cell? ⟨w2.heap.size, 5, none⟩ = some (.bool b8) := fun z => z.ok.cell k5 (fun h => h)
    have z6 : ∀ z : WC (Fr (fun _ => False) w3), z.val.cell? ⟨w2.heap.size, 6, none⟩ = some (.bool b16) := fun z => z.ok.cell k6 (fun h => h)
    go_wp2_with fail
    refine wp_region_text [3, 23, 24] [] (fun w' => ∃ z : WC (Fr (fun _ => False) w3), w' = z.val) (by kernel_rfl) (by kernel_rfl) (fun c a w d v h => by cases d <;> exact h) (fun c a w d v h => by cases d <;> exact h) ⟨⟨w3.drew, (Fr.refl _ _).drew⟩, rfl⟩ ?_
    repeat (refine wpU_q (by rfl) (by rfl) ?_; go_big_quiet_step (fail); refine wpQuiet_nil ?_)
    refine wpU_e (by rfl) ?_
    go_wp2_with fail
    refine (refTwo_any x.id _ hx1.1 (by omega)).mono ?_
    rintro e w4 ⟨rfl, hf4⟩
    have F4 := Lib.hid (hf4.undrew0)
    clear hf4
    go_wp2_with fail
    refine ⟨⟨⟨w4, F4.out⟩, rfl⟩, ?_⟩
    repeat (refine wpU_q (by rfl) (by rfl) ?_; go_big_quiet_step (fail); refine wpQuiet_nil ?_)
    refine wpU_e (by rfl) ?_
    go_wp2_with fail
    have hflc := refFlags_any h hfit w4
    rw [HH.out] at hflc
    simp only at hflc
    refine hflc.mono ?_
    rintro e w5 ⟨rfl, rfl⟩
    rw [← HH.out]
    clear hflc
    go_wp2_with fail
    refine ⟨⟨⟨w4, F4.out⟩, rfl⟩, ?_⟩
    refine wpU_e (by rfl) ?_
    go_wp2_with fail
    have hfl : 0 ≤ h.flags ∧ h.flags < 65536 := fl_range h hfit (by rw [HH.out]; exact q1) (by rw [HH.out]; exact q3) (by rw [HH.out]; exact q2) 4
    have tl1 := two_length x.id
    have tl2 := two_length h.flags
    refine (refTwo_any h.flags _ hfl.1 (by omega)).mono ?_
    rintro e w5 ⟨rfl, hf5⟩
    have F5 := Lib.hid (F4.out.trans hf5 (fun _ h => h.elim))
    clear hf5
    go_wp2_with fail
    refine ⟨⟨⟨w5, F5.out⟩, rfl⟩, ?_⟩
    repeat (refine wpU_q (by rfl) (by rfl) ?_; go_big_quiet_step (fail); refine wpQuiet_nil ?_)
    refine wpU_nil ?_
    clear y0 y1 y2 y3 z1 z3 z4 z5 z6
    go_wp2_with fail
    have G5 := Lib.hid (FB.out.trans F5.out (fun _ h => h.elim))
    have hid : h.id = x.id := by rw [HH.out]
    have hc0 : h.c0 = x.c0 := by rw [HH.out]
    have hc1 : h.c1 = x.c1 := by rw [HH.out]
    have hc2 : h.c2 = x.c2 := by rw [HH.out]
    have hc3 : h.c3 = x.c3 := by rw [HH.out]
    have HC := Lib.hid (And.intro hid (And.intro hc0 (And.intro hc1 (And.intro hc2 hc3)))); clear hid hc0 hc1 hc2 hc3
    have hstart : Value.string (ByteArray.mk (two x.id).toArray ++ ByteArray.mk (two h.flags).toArray) = .string ⟨(h.part 0).toArray⟩ := by
      rw [cat_two, ← HC.out.1]; simp [Hd.part]
    rw [hstart]
    clear hstart tl1 tl2 hfl j0 j1 j2 j3 k1 k3 k4 k5 k6 this
    go_loopw [8, 9] (fun sv kv wr => ∃ (k : Nat) (z : Int), k ≤ 4 ∧ z = k ∧ kv = .int .i64 z ∧ sv = .string ⟨(h.part k).toArray⟩ ∧ Fr (fun _ => False) w3 wr) (fun _ kv _ => 4 - (intOf kv).toNat)
    case atStart => exact ⟨0, 0, by omega, rfl, rfl, rfl, F5.out⟩
    case round =>
      obtain ⟨k, z, hk, hz', rfl, rfl, hwr⟩ := hrel
      have HWR := Lib.hid hwr; clear hwr
      have hpl := part_length h k
      have HP := Lib.hid hpl
      obtain rfl | rfl | rfl | rfl | rfl : k = 0 ∨ k = 1 ∨ k = 2 ∨ k = 3 ∨ k = 4 := by omega
      · obtain rfl : z = 0 := by omega
        clear hz'
        have jc : wr.cell? ⟨W.heap.size, 5, none⟩ = some (.int .u16 x.c0) := HWR.out.cell (FB.out.cell i5 (fun h => h)) (fun h => h)
        go_wp2_with fail
        refine (refTwo_any x.c0 _ hx6.1 (by omega)).mono ?_
        rintro e w6 ⟨rfl, hf6⟩
        have F6 := Lib.hid (HWR.out.trans hf6 (fun _ h => h.elim)); clear hf6
        have tl := two_length x.c0
        go_wp2_with fail
        go_roundw
        case rel => exact ⟨1, _, by omega, rfl, rfl, by rw [cat_two, ← HC.out.2.1]; simp [Hd.part, Hd.cs], F6.out⟩
        case measure => simp [intOf]
      · obtain rfl : z = 1 := by omega
        clear hz'
        have jc : wr.cell? ⟨W.heap.size, 6, none⟩ = some (.int .u16 x.c1) := HWR.out.cell (FB.out.cell i6 (fun h => h)) (fun h => h)
        go_wp2_with fail
        refine (refTwo_any x.c1 _ hx7.1 (by omega)).mono ?_
        rintro e w6 ⟨rfl, hf6⟩
        have F6 := Lib.hid (HWR.out.trans hf6 (fun _ h => h.elim)); clear hf6
        have tl := two_length x.c1
        go_wp2_with fail
        go_roundw
        case rel => exact ⟨2, _, by omega, rfl, rfl, by rw [cat_two, ← HC.out.2.2.1]; simp [Hd.part, Hd.cs], F6.out⟩
        case measure => simp [intOf]
      · obtain rfl : z = 2 := by omega
        clear hz'
        have jc : wr.cell? ⟨W.heap.size, 7, none⟩ = some (.int .u16 x.c2) := HWR.out.cell (FB.out.cell i7 (fun h => h)) (fun h => h)
        go_wp2_with fail
        refine (refTwo_any x.c2 _ hx8.1 (by omega)).mono ?_
        rintro e w6 ⟨rfl, hf6⟩
        have F6 := Lib.hid (HWR.out.trans hf6 (fun _ h => h.elim)); clear hf6
        have tl := two_length x.c2
        go_wp2_with fail
        go_roundw
        case rel => exact ⟨3, _, by omega, rfl, rfl, by rw [cat_two, ← HC.out.2.2.2.1]; simp [Hd.part, Hd.cs], F6.out⟩
        case measure => simp [intOf]
      · obtain rfl : z = 3 := by omega
        clear hz'
        have jc : wr.cell? ⟨W.heap.size, 8, none⟩ = some (.int .u16 x.c3) := HWR.out.cell (FB.out.cell i8 (fun h => h)) (fun h => h)
        go_wp2_with fail
        refine (refTwo_any x.c3 _ hx9.1 (by omega)).mono ?_
        rintro e w6 ⟨rfl, hf6⟩
        have F6 := Lib.hid (HWR.out.trans hf6 (fun _ h => h.elim)); clear hf6
        have tl := two_length x.c3
        go_wp2_with fail
        go_roundw
        case rel => exact ⟨4, _, by omega, rfl, rfl, by rw [cat_two, ← HC.out.2.2.2.2]; simp [Hd.part, Hd.cs], F6.out⟩
        case measure => simp [intOf]
      · obtain rfl : z = 4 := by omega
        clear hz' hpl
        have hbl := hd_bytes_length h
        have e4 : h.part 4 = h.bytes := rfl
        rw [e4]
        clear e4
        have hbd := HBAD.out
        have hdec : ∀ w, Calls Try.prog 46 #[.string (ByteArray.mk h.bytes.toArray ++ s.extract 0 m)] w fun e w' => e = .returned (.tuple #[h.val, .int .i64 0]) ∧ Fr (fun _ => False) w w' := by
          intro w
          have h1 := headDecode_any (h.bytes ++ (s.extract 0 m).data.toList) (by simp [hbl]; omega) w
          rw [← cat_list] at h1
          refine h1.mono ?_
          rintro e w' ⟨hf, he⟩
          rw [if_neg (by simp [hbl]), hdRead_app h hfit hbd] at he
          exact ⟨he, hf⟩
        rw [HVAL.out] at hdec
        have HD := Lib.hid hdec; clear hdec hbd
        have esz : (s.extract 0 m).size = m := by simp; omega
        go_wp2_with fail
        refine (HD.out _).mono ?_
        rintro e w6 ⟨rfl, hf6⟩
        have F6 := Lib.hid (HWR.out.trans hf6 (fun _ h => h.elim)); clear hf6
        have k0 : w6.cell? ⟨w2.heap.size, 0, none⟩ = some (.int .u16 x.id) := F6.out.cell (by rw [Lib.cell_of_heap HHB.out, HCEL.out]; rfl) (fun h => h)
        have k1 : w6.cell? ⟨w2.heap.size, 1, none⟩ = some (.bool b1) := F6.out.cell (by rw [Lib.cell_of_heap HHB.out, HCEL.out]; rfl) (fun h => h)
        have k2 : w6.cell? ⟨w2.heap.size, 2, none⟩ = some (.int .u8 x.op) := F6.out.cell (by rw [Lib.cell_of_heap HHB.out, HCEL.out]; rfl) (fun h => h)
        have k3 : w6.cell? ⟨w2.heap.size, 3, none⟩ = some (.bool b2) := F6.out.cell (by rw [Lib.cell_of_heap HHB.out, HCEL.out]; rfl) (fun h => h)
        have k4 : w6.cell? ⟨w2.heap.size, 4, none⟩ = some (.bool b4) := F6.out.cell (by rw [Lib.cell_of_heap HHB.out, HCEL.out]; rfl) (fun h => h)
        have k5 : w6.cell? ⟨w2.heap.size, 5, none⟩ = some (.bool b8) := F6.out.cell (by rw [Lib.cell_of_heap HHB.out, HCEL.out]; rfl) (fun h => h)
        have k6 : w6.cell? ⟨w2.heap.size, 6, none⟩ = some (.bool b16) := F6.out.cell (by rw [Lib.cell_of_heap HHB.out, HCEL.out]; rfl) (fun h => h)
        have k7 : w6.cell? ⟨w2.heap.size, 7, none⟩ = some (.int .u8 x.zero) := F6.out.cell (by rw [Lib.cell_of_heap HHB.out, HCEL.out]; rfl) (fun h => h)
        have k8 : w6.cell? ⟨w2.heap.size, 8, none⟩ = some (.int .u8 x.code) := F6.out.cell (by rw [Lib.cell_of_heap HHB.out, HCEL.out]; rfl) (fun h => h)
        have k9 : w6.cell? ⟨w2.heap.size, 9, none⟩ = some (.int .u16 x.c0) := F6.out.cell (by rw [Lib.cell_of_heap HHB.out, HCEL.out]; rfl) (fun h => h)
        have k10 : w6.cell? ⟨w2.heap.size, 10, none⟩ = some (.int .u16 x.c1) := F6.out.cell (by rw [Lib.cell_of_heap HHB.out, HCEL.out]; rfl) (fun h => h)
        have k11 : w6.cell? ⟨w2.heap.size, 11, none⟩ = some (.int .u16 x.c2) := F6.out.cell (by rw [Lib.cell_of_heap HHB.out, HCEL.out]; rfl) (fun h => h)
        have k12 : w6.cell? ⟨w2.heap.size, 12, none⟩ = some (.int .u16 x.c3) := F6.out.cell (by rw [Lib.cell_of_heap HHB.out, HCEL.out]; rfl) (fun h => h)
        have lt6 := lt_of_cell k0
        simp only at lt6
        go_wp2_with fail
        go_ret
        exact ⟨rfl, Fr.below (Below.refl _ _) ((FA.out.trans F6.out (fun _ h => h.elim)).alloc _) (Nat.le_refl _) (fun k h => h.elim)⟩
end Go.Proofs.Ytoniebocphjmgaa
