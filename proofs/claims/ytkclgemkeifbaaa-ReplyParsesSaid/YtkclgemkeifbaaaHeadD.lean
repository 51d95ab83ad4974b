/-
  Package head: Encode and Decode.
-/
import Derived.Test.YtkclgemkeifbaaaHead
import Derived.Test.YtkclgemkeifbaaaPackL
namespace Go.Proofs.Ytkclgemkeifbaaa
open Go.RowKit Go.Proofs

def hdOf (n0 n1 n2 n3 n4 n5 : Int) : Hd :=
  { id := n0, resp := (n1 / 32768 % 2 == 1), op := n1 / 2048 % 16, auth := (n1 / 1024 % 2 == 1), trunc := (n1 / 512 % 2 == 1), des := (n1 / 256 % 2 == 1), avail := (n1 / 128 % 2 == 1), zero := n1 / 16 % 8, code := n1 % 16, c0 := n2, c1 := n3, c2 := n4, c3 := n5 }
/-- the number of two bytes at a place -/
def numAt (l : List UInt8) (i : Nat) : Int := (getNum ((l.drop i).take 2) : Nat)
def hdRead (l : List UInt8) : Hd := hdOf (numAt l 0) (numAt l 2) (numAt l 4) (numAt l 6) (numAt l 8) (numAt l 10)
def hdZero : Hd := { id := 0, resp := false, op := 0, auth := false, trunc := false, des := false, avail := false, zero := 0, code := 0, c0 := 0, c1 := 0, c2 := 0, c3 := 0 }

theorem getNum_two (l : List UInt8) : getNum (l.take 2) < 65536 := by
  have h := getNum_lt (l.take 2)
  refine Nat.lt_of_lt_of_le h ?_
  have : (l.take 2).length ≤ 2 := by simp; omega
  exact Nat.le_trans (Nat.pow_le_pow_right (n := 256) (by omega) this) (by decide)
theorem numAt_range (l : List UInt8) (i : Nat) : 0 ≤ numAt l i ∧ numAt l i ≤ 65535 := by
  have := getNum_two (l.drop i)
  unfold numAt; omega
theorem hdRead_fits (l : List UInt8) : (hdRead l).Fits := by
  have h0 := numAt_range l 0
  have h1 := numAt_range l 2
  have h2 := numAt_range l 4
  have h3 := numAt_range l 6
  have h4 := numAt_range l 8
  have h5 := numAt_range l 10
  constructor <;> simp only [hdRead, hdOf] <;> omega

theorem blk_set {w : World} {q : Nat} {cs : Array Value} {e : TypeId} {fr : Nat × Nat} (h : w.heap[q]? = some (.cells cs e fr)) (j : Nat) (v : Value) : (w.setCell ⟨q, j, none⟩ v).heap[q]? = some (.cells (cs.setIfInBounds j v) e fr) := by
  simp [World.setCell, Array.getElem?_modify, h]

theorem and_1 (x : Int) (h0 : 0 ≤ x) (h1 : x < 65536) : bits .and .u64 x 1 = x % 2 := bits_mask .u64 63 (by decide) (fun n h0 h1 => by rw [IntKind.wrap_u64]; omega) 1 (by decide) x h0 (by omega)
theorem and_7 (x : Int) (h0 : 0 ≤ x) (h1 : x < 65536) : bits .and .u64 x 7 = x % 8 := bits_mask .u64 63 (by decide) (fun n h0 h1 => by rw [IntKind.wrap_u64]; omega) 3 (by decide) x h0 (by omega)
theorem and_15 (x : Int) (h0 : 0 ≤ x) (h1 : x < 65536) : bits .and .u64 x 15 = x % 16 := bits_mask .u64 63 (by decide) (fun n h0 h1 => by rw [IntKind.wrap_u64]; omega) 4 (by decide) x h0 (by omega)

set_option maxHeartbeats 2000000 in
set_option maxRecDepth 100000 in
theorem headEncode_any (h : Hd) (hf : h.Fits) (W : World) : Calls Try.prog 68 #[h.val] W fun e w' => e = (hdOut h).ending ∧ Fr (fun _ => False) W w' := by
  have hmf : ∀ (fn : Fn) (first cap : Array Value) (w : World), (Instr.makeFunc fn first cap).run Try.prog w = .ok (.func fn first cap) w := fun _ _ _ _ => rfl
  obtain ⟨w1, hw1⟩ : ∃ w1, w1 = W.alloc (.cells h.cells.toArray 64) := ⟨_, rfl⟩
  have hs1 : w1.heap.size = W.heap.size + 1 := by rw [hw1]; simp
  have hf1 : Fr (fun _ => False) W w1 := by rw [hw1]; exact (Fr.refl _ _).alloc _
  have hq : HdAt w1 W.heap.size h := HdAt.of_block (e := 64) (fr := (0, 0)) (by rw [hw1, heap_alloc_if, if_pos rfl])
  have hcall := packWrite_any 106 #[.pointer (some ⟨W.heap.size, 0, none⟩)] w1 (fun _ => False) (fun x _ => x = hdOut h) (fun a w => enters_fn Try.func106 (by kernel_rfl) rfl _ w) (fun k h => h.elim)
    (fun w hfw hwr => (encode1_any (w1.heap.size + 1) W.heap.size w1.heap.size (wS w1.heap.size) h hf w hwr (hq.keep hfw (fun h => h)) (by unfold wS; omega)).mono (by rintro e w' ⟨a, x, b, c⟩; exact ⟨a.mono (fun k _ hk => .inl hk), x, b, c⟩))
  have HC := Lib.hid hcall; clear hcall
  have HF1 := Lib.hid hf1; clear hf1
  clear hq hf
  have hw1' : w1 = W.alloc (.cells #[.int .u16 h.id, .bool h.resp, .int .u8 h.op, .bool h.auth, .bool h.trunc, .bool h.des, .bool h.avail, .int .u8 h.zero, .int .u8 h.code, .int .u16 h.c0, .int .u16 h.c1, .int .u16 h.c2, .int .u16 h.c3] 64) := hw1
  clear hw1
  unfold Hd.val
  go_enter Try.func68, Try.ntmps68
  go_wp2_with fail
  rw [← hw1']
  refine HC.out.mono ?_
  rintro e w2 ⟨w0, x, rfl, rfl, hf2, hs2, hf3⟩
  have hfr : Fr (fun _ => False) W w2 := by
    have := (HF1.out.mono (T := fun k => W.heap.size ≤ k) (fun k _ h => h.elim)).trans hf3 (by intro k hk; left; rcases hk with hk | hk; omega; exact hk.elim)
    exact this.mono (fun k hk h => by omega)
  have FR := Lib.hid hfr
  clear hf2 hf3 hs2 hw1' hfr
  by_cases hb : h.bad
  · have hout : hdOut h = .ref 11 := by unfold hdOut; rw [if_pos hb]
    rw [hout]
    unfold WOut.ending
    go_wp2_with fail
    go_ret2
    exact ⟨by rw [hout]; rfl, FR.out⟩
  · have hout : hdOut h = .ok h.bytes := by unfold hdOut; rw [if_neg hb]
    rw [hout]
    unfold WOut.ending
    go_wp2_with fail
    go_ret2
    exact ⟨by rw [hout]; rfl, FR.out⟩

/-- what has been read when k counts stand -/
def hdPart (l : List UInt8) (k : Nat) : Hd :=
  { hdRead l with c0 := if 0 < k then numAt l 4 else 0, c1 := if 1 < k then numAt l 6 else 0, c2 := if 2 < k then numAt l 8 else 0, c3 := if 3 < k then numAt l 10 else 0 }
theorem hdPart_full (l : List UInt8) : hdPart l 4 = hdRead l := by simp [hdPart, hdRead, hdOf]

def DecEnd (b q : Nat) (l : List UInt8) (w : World) (e : Ending) (w' : World) : Prop :=
  Fr (fun k => k = b ∨ k = q) w w' ∧ (l.length = 12 → e = .returned (.tuple #[]) ∧ RdL w' b [] ∧ w'.heap[q]? = some (.cells (hdRead l).cells.toArray 64 (0, 0))) ∧
  (l.length < 12 → e = .panicked [{ v := refused 2, recovered := false }])

theorem and_cast (x : Int) (h : x ≤ 65535) (h0 : 0 ≤ x) : x % 65536 = x := by omega

set_option maxHeartbeats 4000000 in
set_option maxRecDepth 100000 in
theorem decode1_any (b q : Nat) (l : List UInt8) (w : World) (hr : RdL w b l) (hb : w.heap[q]? = some (.cells hdZero.cells.toArray 64 (0, 0))) (hne : b ≠ q) (hl : l.length ≤ 12) :
    Calls Try.prog 65 #[.pointer (some ⟨b, 0, none⟩), .pointer (some ⟨q, 0, none⟩)] w (DecEnd b q l w) := by
  have HR := Lib.hid hr; clear hr
  have HB := Lib.hid hb; clear hb
  have short : ∀ w', Fr (fun k => k = b ∨ k = q) w w' → l.length < 12 → DecEnd b q l w (.panicked [{ v := refused 2, recovered := false }]) w' := fun w' hf h => ⟨hf, fun h' => by omega, fun _ => rfl⟩
  have SH := Lib.hid short; clear short
  go_enter Try.func65, Try.ntmps65
  go_wp2_with fail
  by_cases l2 : l.length < 2
  · refine (readNum_short b 2 l w HR.out (by omega) (by omega) l2 2 rfl).mono ?_
    rintro e w' ⟨rfl, rfl⟩
    go_wp2_with fail
    exact ⟨rfl, SH.out w (Fr.refl _ _) (by omega)⟩
  refine (readNum_ok b 2 l w HR.out (by omega) (by omega) (by omega) 2 rfl).mono ?_
  rintro e w1 ⟨rfl, hr1, hf1⟩
  have hb1 : w1.heap[q]? = some (.cells hdZero.cells.toArray 64 (0, 0)) := by
    rw [hf1.block q ?_ (fun h => hne h.symm)]; exact HB.out
    apply Classical.byContradiction; intro h
    have := HB.out
    rw [Array.getElem?_eq_none (by omega)] at this; cases this
  have n0 := numAt_range l 0
  rw [show ((getNum (l.take 2) : Nat) : Int) = numAt l 0 from rfl]
  generalize hx0 : numAt l 0 = x0 at n0 ⊢
  have HX0 := Lib.hid hx0; clear hx0
  have e0 : w1.cell? ⟨q, 0, none⟩ = some (.int .u16 0) := by rw [Lib.cell_of_heap hb1]; rfl
  have z0 : w1.frozen? ⟨q, 0, none⟩ = false := Lib.frozen_of_heap hb1 0
  have hb2 := blk_set hb1 0 (.int .u16 x0)
  have hr2 : RdL (w1.setCell ⟨q, 0, none⟩ (.int .u16 x0)) b (l.drop 2) := hr1.keep (S := fun k => k = q) ((Fr.refl (fun k => k = q) w1).setCell (p := ⟨q, 0, none⟩) (.inl rfl) _) hne
  have hf2 : Fr (fun k => k = b ∨ k = q) w (w1.setCell ⟨q, 0, none⟩ (.int .u16 x0)) := (hf1.mono (T := fun k => k = b ∨ k = q) (fun k _ h => .inl h)).setCell (p := ⟨q, 0, none⟩) (.inl (.inr rfl)) _
  have B2 := Lib.hid hb2; clear hb2
  have R2 := Lib.hid hr2; clear hr2
  have F2 := Lib.hid hf2; clear hf2
  clear hb1 hr1 hf1
  go_wp2_with fail
  generalize hw2 : w1.setCell ⟨q, 0, none⟩ (.int .u16 x0) = w2 at *
  clear hw2 e0 z0
  by_cases l4 : l.length < 4
  · refine (readNum_short b 2 _ w2 R2.out (by omega) (by omega) (by simp; omega) 2 rfl).mono ?_
    rintro e w' ⟨rfl, rfl⟩
    go_wp2_with fail
    exact ⟨rfl, SH.out w2 F2.out (by omega)⟩
  refine (readNum_ok b 2 _ w2 R2.out (by omega) (by omega) (by simp; omega) 2 rfl).mono ?_
  rintro e w3 ⟨rfl, hr3, hf3⟩
  have hb3 : w3.heap[q]? = some (.cells (hdZero.cells.toArray.setIfInBounds 0 (.int .u16 x0)) 64 (0, 0)) := by
    rw [hf3.block q ?_ (fun h => hne h.symm)]; exact B2.out
    apply Classical.byContradiction; intro h
    have := B2.out
    rw [Array.getElem?_eq_none (by omega)] at this; cases this
  have n1 := numAt_range l 2
  rw [show ((getNum ((l.drop 2).take 2) : Nat) : Int) = numAt l 2 from rfl]
  generalize hx1 : numAt l 2 = x1 at n1 ⊢
  have HX1 := Lib.hid hx1; clear hx1
  have e1 : w3.cell? ⟨q, 1, none⟩ = some (.bool false) := by rw [Lib.cell_of_heap hb3]; rfl
  have z1 : w3.frozen? ⟨q, 1, none⟩ = false := Lib.frozen_of_heap hb3 1
  have e2 : w3.cell? ⟨q, 2, none⟩ = some (.int .u8 0) := by rw [Lib.cell_of_heap hb3]; rfl
  have z2 : w3.frozen? ⟨q, 2, none⟩ = false := Lib.frozen_of_heap hb3 2
  have e3 : w3.cell? ⟨q, 3, none⟩ = some (.bool false) := by rw [Lib.cell_of_heap hb3]; rfl
  have z3 : w3.frozen? ⟨q, 3, none⟩ = false := Lib.frozen_of_heap hb3 3
  have e4 : w3.cell? ⟨q, 4, none⟩ = some (.bool false) := by rw [Lib.cell_of_heap hb3]; rfl
  have z4 : w3.frozen? ⟨q, 4, none⟩ = false := Lib.frozen_of_heap hb3 4
  have e5 : w3.cell? ⟨q, 5, none⟩ = some (.bool false) := by rw [Lib.cell_of_heap hb3]; rfl
  have z5 : w3.frozen? ⟨q, 5, none⟩ = false := Lib.frozen_of_heap hb3 5
  have e6 : w3.cell? ⟨q, 6, none⟩ = some (.bool false) := by rw [Lib.cell_of_heap hb3]; rfl
  have z6 : w3.frozen? ⟨q, 6, none⟩ = false := Lib.frozen_of_heap hb3 6
  have e7 : w3.cell? ⟨q, 7, none⟩ = some (.int .u8 0) := by rw [Lib.cell_of_heap hb3]; rfl
  have z7 : w3.frozen? ⟨q, 7, none⟩ = false := Lib.frozen_of_heap hb3 7
  have e8 : w3.cell? ⟨q, 8, none⟩ = some (.int .u8 0) := by rw [Lib.cell_of_heap hb3]; rfl
  have z8 : w3.frozen? ⟨q, 8, none⟩ = false := Lib.frozen_of_heap hb3 8
  have a15 := and_1 (x1 / 32768) (by omega) (by omega)
  have a11 := and_15 (x1 / 2048) (by omega) (by omega)
  have a7 := and_1 (x1 / 128) (by omega) (by omega)
  have a8 := and_1 (x1 / 256) (by omega) (by omega)
  have a9 := and_1 (x1 / 512) (by omega) (by omega)
  have a10 := and_1 (x1 / 1024) (by omega) (by omega)
  have a4 := and_7 (x1 / 16) (by omega) (by omega)
  have a0 := and_15 (x1) (by omega) (by omega)
  have hb4 := (blk_set (blk_set (blk_set (blk_set (blk_set (blk_set (blk_set (blk_set hb3 1 (.bool (x1 / 32768 % 2 == 1))) 2 (.int .u8 (x1 / 2048 % 16))) 6 (.bool (x1 / 128 % 2 == 1))) 5 (.bool (x1 / 256 % 2 == 1))) 4 (.bool (x1 / 512 % 2 == 1))) 3 (.bool (x1 / 1024 % 2 == 1))) 7 (.int .u8 (x1 / 16 % 8))) 8 (.int .u8 (x1 % 16)))
  have hf4 : Fr (fun k => k = q) w3 _ := (((((((((Fr.refl (fun k => k = q) w3).setCell (p := ⟨q, 1, none⟩) (.inl rfl) (.bool (x1 / 32768 % 2 == 1))).setCell (p := ⟨q, 2, none⟩) (.inl rfl) (.int .u8 (x1 / 2048 % 16))).setCell (p := ⟨q, 6, none⟩) (.inl rfl) (.bool (x1 / 128 % 2 == 1))).setCell (p := ⟨q, 5, none⟩) (.inl rfl) (.bool (x1 / 256 % 2 == 1))).setCell (p := ⟨q, 4, none⟩) (.inl rfl) (.bool (x1 / 512 % 2 == 1))).setCell (p := ⟨q, 3, none⟩) (.inl rfl) (.bool (x1 / 1024 % 2 == 1))).setCell (p := ⟨q, 7, none⟩) (.inl rfl) (.int .u8 (x1 / 16 % 8))).setCell (p := ⟨q, 8, none⟩) (.inl rfl) (.int .u8 (x1 % 16)))
  have H3 := Lib.hid hb3
  have B4 := Lib.hid hb4; clear hb4
  have F4 := Lib.hid hf4; clear hf4
  have R3 := Lib.hid hr3; clear hr3
  have F3 := Lib.hid hf3; clear hf3
  clear hb3 H3
  go_wp2_with fail
  obtain ⟨w4, hw4⟩ : ∃ w4, w4 = (w3.setCell ⟨q, 1, none⟩ (.bool (x1 / 32768 % 2 == 1)) |>.setCell ⟨q, 2, none⟩ (.int .u8 (x1 / 2048 % 16)) |>.setCell ⟨q, 6, none⟩ (.bool (x1 / 128 % 2 == 1)) |>.setCell ⟨q, 5, none⟩ (.bool (x1 / 256 % 2 == 1)) |>.setCell ⟨q, 4, none⟩ (.bool (x1 / 512 % 2 == 1)) |>.setCell ⟨q, 3, none⟩ (.bool (x1 / 1024 % 2 == 1)) |>.setCell ⟨q, 7, none⟩ (.int .u8 (x1 / 16 % 8)) |>.setCell ⟨q, 8, none⟩ (.int .u8 (x1 % 16))) := ⟨_, rfl⟩
  rw [← hw4]
  rw [← hw4] at B4 F4
  have hb5 : w4.heap[q]? = some (.cells (hdPart l 0).cells.toArray 64 (0, 0)) := by
    rw [B4.out]
    simp [hdPart, hdRead, hdOf, Hd.cells, hdZero, HX0.out, HX1.out]
  have hr5 : RdL w4 b (l.drop (4 + 2 * 0)) := by
    have := R3.out.keep F4.out hne
    rwa [List.drop_drop] at this
  have hf5 : Fr (fun k => k = b ∨ k = q) w w4 := (F2.out.trans F3.out (fun k hk => .inl (.inl hk))).trans F4.out (fun k hk => .inl (.inr hk))
  have B5 := Lib.hid hb5; clear hb5
  have R5 := Lib.hid hr5; clear hr5
  have F5 := Lib.hid hf5; clear hf5
  clear B4 F4 R3 F3 hw4 F2 B2 R2 HX0 HX1 n0 n1 a15 a11 a7 a8 a9 a10 a4 a0
  clear e1 e2 e3 e4 e5 e6 e7 e8 z1 z2 z3 z4 z5 z6 z7 z8
  go_loopw [4, 50] (fun jv kv wr => ∃ (k : Nat) (z : Int), k ≤ 4 ∧ 4 + 2 * k ≤ l.length ∧ z = k ∧ kv = .int .i64 z ∧ RdL wr b (l.drop (4 + 2 * k)) ∧ wr.heap[q]? = some (.cells (hdPart l k).cells.toArray 64 (0, 0)) ∧ Fr (fun k => k = b ∨ k = q) w wr) (fun _ kv _ => 4 - (intOf kv).toNat)
  case atStart => exact ⟨0, 0, by omega, by omega, rfl, rfl, R5.out, B5.out, F5.out⟩
  case round =>
    obtain ⟨k, z, hk, hlk, hz', rfl, hr6, hb6, hf6⟩ := hrel
    have R6 := Lib.hid hr6; clear hr6
    have B6 := Lib.hid hb6; clear hb6
    have F6 := Lib.hid hf6; clear hf6
    obtain rfl | rfl | rfl | rfl | rfl : k = 0 ∨ k = 1 ∨ k = 2 ∨ k = 3 ∨ k = 4 := by omega
    · obtain rfl : z = 0 := by omega
      clear hz'
      go_wp2_with fail
      by_cases l6 : l.length < 6
      · refine (readNum_short b 2 _ wr R6.out (by omega) (by omega) (by simp; omega) 2 rfl).mono ?_
        rintro e w' ⟨rfl, rfl⟩
        go_wp2_with fail
        exact ⟨rfl, SH.out wr F6.out (by omega)⟩
      refine (readNum_ok b 2 _ wr R6.out (by omega) (by omega) (by simp; omega) 2 rfl).mono ?_
      rintro e w7 ⟨rfl, hr7, hf7⟩
      have hb7 : w7.heap[q]? = some (.cells (hdPart l 0).cells.toArray 64 (0, 0)) := by
        rw [hf7.block q ?_ (fun h => hne h.symm)]; exact B6.out
        apply Classical.byContradiction; intro h
        have := B6.out
        rw [Array.getElem?_eq_none (by omega)] at this; cases this
      have n1 := numAt_range l 4
      rw [show ((getNum ((l.drop (4 + 2 * 0)).take 2) : Nat) : Int) = numAt l 4 from rfl]
      have e1 : w7.cell? ⟨q, 9, none⟩ = some (.int .u16 0) := by rw [Lib.cell_of_heap hb7]; rfl
      have z1 : w7.frozen? ⟨q, 9, none⟩ = false := Lib.frozen_of_heap hb7 9
      have hb8 := blk_set hb7 9 (.int .u16 (numAt l 4))
      have hf8 : Fr (fun k => k = q) w7 (w7.setCell ⟨q, 9, none⟩ (.int .u16 (numAt l 4))) := (Fr.refl (fun k => k = q) w7).setCell (p := ⟨q, 9, none⟩) (.inl rfl) _
      have hr8 := hr7.keep hf8 hne
      rw [List.drop_drop] at hr8
      have B8 := Lib.hid hb8; clear hb8 hb7
      have R8 := Lib.hid hr8; clear hr8 hr7
      have F8 := Lib.hid ((F6.out.trans hf7 (fun k hk => .inl (.inl hk))).trans hf8 (fun k hk => .inl (.inr hk))); clear hf7 hf8
      go_wp2_with fail
      go_roundw
      case rel => exact ⟨1, _, by omega, by omega, rfl, rfl, R8.out, by rw [B8.out]; simp [hdPart, hdRead, hdOf, Hd.cells], F8.out⟩
      case measure => simp [intOf]
    · obtain rfl : z = 1 := by omega
      clear hz'
      go_wp2_with fail
      by_cases l6 : l.length < 8
      · refine (readNum_short b 2 _ wr R6.out (by omega) (by omega) (by simp; omega) 2 rfl).mono ?_
        rintro e w' ⟨rfl, rfl⟩
        go_wp2_with fail
        exact ⟨rfl, SH.out wr F6.out (by omega)⟩
      refine (readNum_ok b 2 _ wr R6.out (by omega) (by omega) (by simp; omega) 2 rfl).mono ?_
      rintro e w7 ⟨rfl, hr7, hf7⟩
      have hb7 : w7.heap[q]? = some (.cells (hdPart l 1).cells.toArray 64 (0, 0)) := by
        rw [hf7.block q ?_ (fun h => hne h.symm)]; exact B6.out
        apply Classical.byContradiction; intro h
        have := B6.out
        rw [Array.getElem?_eq_none (by omega)] at this; cases this
      have n1 := numAt_range l 6
      rw [show ((getNum ((l.drop (4 + 2 * 1)).take 2) : Nat) : Int) = numAt l 6 from rfl]
      have e1 : w7.cell? ⟨q, 10, none⟩ = some (.int .u16 0) := by rw [Lib.cell_of_heap hb7]; rfl
      have z1 : w7.frozen? ⟨q, 10, none⟩ = false := Lib.frozen_of_heap hb7 10
      have hb8 := blk_set hb7 10 (.int .u16 (numAt l 6))
      have hf8 : Fr (fun k => k = q) w7 (w7.setCell ⟨q, 10, none⟩ (.int .u16 (numAt l 6))) := (Fr.refl (fun k => k = q) w7).setCell (p := ⟨q, 10, none⟩) (.inl rfl) _
      have hr8 := hr7.keep hf8 hne
      rw [List.drop_drop] at hr8
      have B8 := Lib.hid hb8; clear hb8 hb7
      have R8 := Lib.hid hr8; clear hr8 hr7
      have F8 := Lib.hid ((F6.out.trans hf7 (fun k hk => .inl (.inl hk))).trans hf8 (fun k hk => .inl (.inr hk))); clear hf7 hf8
      go_wp2_with fail
      go_roundw
      case rel => exact ⟨2, _, by omega, by omega, rfl, rfl, R8.out, by rw [B8.out]; simp [hdPart, hdRead, hdOf, Hd.cells], F8.out⟩
      case measure => simp [intOf]
    · obtain rfl : z = 2 := by omega
      clear hz'
      go_wp2_with fail
      by_cases l6 : l.length < 10
      · refine (readNum_short b 2 _ wr R6.out (by omega) (by omega) (by simp; omega) 2 rfl).mono ?_
        rintro e w' ⟨rfl, rfl⟩
        go_wp2_with fail
        exact ⟨rfl, SH.out wr F6.out (by omega)⟩
      refine (readNum_ok b 2 _ wr R6.out (by omega) (by omega) (by simp; omega) 2 rfl).mono ?_
      rintro e w7 ⟨rfl, hr7, hf7⟩
      have hb7 : w7.heap[q]? = some (.cells (hdPart l 2).cells.toArray 64 (0, 0)) := by
        rw [hf7.block q ?_ (fun h => hne h.symm)]; exact B6.out
        apply Classical.byContradiction; intro h
        have := B6.out
        rw [Array.getElem?_eq_none (by omega)] at this; cases this
      have n1 := numAt_range l 8
      rw [show ((getNum ((l.drop (4 + 2 * 2)).take 2) : Nat) : Int) = numAt l 8 from rfl]
      have e1 : w7.cell? ⟨q, 11, none⟩ = some (.int .u16 0) := by rw [Lib.cell_of_heap hb7]; rfl
      have z1 : w7.frozen? ⟨q, 11, none⟩ = false := Lib.frozen_of_heap hb7 11
      have hb8 := blk_set hb7 11 (.int .u16 (numAt l 8))
      have hf8 : Fr (fun k => k = q) w7 (w7.setCell ⟨q, 11, none⟩ (.int .u16 (numAt l 8))) := (Fr.refl (fun k => k = q) w7).setCell (p := ⟨q, 11, none⟩) (.inl rfl) _
      have hr8 := hr7.keep hf8 hne
      rw [List.drop_drop] at hr8
      have B8 := Lib.hid hb8; clear hb8 hb7
      have R8 := Lib.hid hr8; clear hr8 hr7
      have F8 := Lib.hid ((F6.out.trans hf7 (fun k hk => .inl (.inl hk))).trans hf8 (fun k hk => .inl (.inr hk))); clear hf7 hf8
      go_wp2_with fail
      go_roundw
      case rel => exact ⟨3, _, by omega, by omega, rfl, rfl, R8.out, by rw [B8.out]; simp [hdPart, hdRead, hdOf, Hd.cells], F8.out⟩
      case measure => simp [intOf]
    · obtain rfl : z = 3 := by omega
      clear hz'
      go_wp2_with fail
      by_cases l6 : l.length < 12
      · refine (readNum_short b 2 _ wr R6.out (by omega) (by omega) (by simp; omega) 2 rfl).mono ?_
        rintro e w' ⟨rfl, rfl⟩
        go_wp2_with fail
        exact ⟨rfl, SH.out wr F6.out (by omega)⟩
      refine (readNum_ok b 2 _ wr R6.out (by omega) (by omega) (by simp; omega) 2 rfl).mono ?_
      rintro e w7 ⟨rfl, hr7, hf7⟩
      have hb7 : w7.heap[q]? = some (.cells (hdPart l 3).cells.toArray 64 (0, 0)) := by
        rw [hf7.block q ?_ (fun h => hne h.symm)]; exact B6.out
        apply Classical.byContradiction; intro h
        have := B6.out
        rw [Array.getElem?_eq_none (by omega)] at this; cases this
      have n1 := numAt_range l 10
      rw [show ((getNum ((l.drop (4 + 2 * 3)).take 2) : Nat) : Int) = numAt l 10 from rfl]
      have e1 : w7.cell? ⟨q, 12, none⟩ = some (.int .u16 0) := by rw [Lib.cell_of_heap hb7]; rfl
      have z1 : w7.frozen? ⟨q, 12, none⟩ = false := Lib.frozen_of_heap hb7 12
      have hb8 := blk_set hb7 12 (.int .u16 (numAt l 10))
      have hf8 : Fr (fun k => k = q) w7 (w7.setCell ⟨q, 12, none⟩ (.int .u16 (numAt l 10))) := (Fr.refl (fun k => k = q) w7).setCell (p := ⟨q, 12, none⟩) (.inl rfl) _
      have hr8 := hr7.keep hf8 hne
      rw [List.drop_drop] at hr8
      have B8 := Lib.hid hb8; clear hb8 hb7
      have R8 := Lib.hid hr8; clear hr8 hr7
      have F8 := Lib.hid ((F6.out.trans hf7 (fun k hk => .inl (.inl hk))).trans hf8 (fun k hk => .inl (.inr hk))); clear hf7 hf8
      go_wp2_with fail
      go_roundw
      case rel => exact ⟨4, _, by omega, by omega, rfl, rfl, R8.out, by rw [B8.out]; simp [hdPart, hdRead, hdOf, Hd.cells], F8.out⟩
      case measure => simp [intOf]
    · obtain rfl : z = 4 := by omega
      clear hz'
      go_wp2_with fail
      go_end0
      refine ⟨F6.out, fun h12 => ⟨rfl, ?_, by rw [B6.out, hdPart_full]⟩, fun h => by omega⟩
      have := R6.out
      rwa [List.drop_eq_nil_of_le (by omega)] at this

theorem numAt_take (l : List UInt8) (i : Nat) (hi : i ≤ 10) : numAt (l.take 12) i = numAt l i := by
  unfold numAt
  rw [List.drop_take, List.take_take, Nat.min_eq_left (by omega)]
theorem hdRead_take (l : List UInt8) : hdRead (l.take 12) = hdRead l := by
  unfold hdRead
  rw [numAt_take l 0 (by omega), numAt_take l 2 (by omega), numAt_take l 4 (by omega), numAt_take l 6 (by omega), numAt_take l 8 (by omega), numAt_take l 10 (by omega)]

def DecOut (l : List UInt8) (W : World) (e : Ending) (w' : World) : Prop :=
  Fr (fun _ => False) W w' ∧ e = .returned (.tuple (if l.length < 12 then #[hdZero.val, .int .i64 2] else #[(hdRead l).val, .int .i64 0]))

set_option maxHeartbeats 2000000 in
set_option maxRecDepth 100000 in
theorem headDecode_any (l : List UInt8) (hl : l.length ≤ 9223372036854775807) (W : World) : Calls Try.prog 31 #[.string ⟨l.toArray⟩] W (DecOut l W) := by
  have hmf : ∀ (fn : Fn) (first cap : Array Value) (w : World), (Instr.makeFunc fn first cap).run Try.prog w = .ok (.func fn first cap) w := fun _ _ _ _ => rfl
  have hsz := mk_size l
  obtain ⟨m, hm, hite, hmin⟩ : ∃ m : Nat, m = min l.length 12 ∧ (if (12 : Int) < (l.length : Int) then (12 : Int) else (l.length : Int)) = (m : Int) ∧ min (l.length : Int) 12 = (m : Int) := ⟨min l.length 12, rfl, by split <;> omega, by omega⟩
  obtain ⟨w2, hw2⟩ : ∃ w2, w2 = (W.alloc (.cells hdZero.cells.toArray 64)).alloc (.cells hdZero.cells.toArray 64) := ⟨_, rfl⟩
  have hs2 : w2.heap.size = W.heap.size + 2 := by rw [hw2]; simp
  have hf2 : Fr (fun _ => False) W w2 := by rw [hw2]; exact ((Fr.refl _ _).alloc _).alloc _
  have hq : w2.heap[W.heap.size + 1]? = some (.cells hdZero.cells.toArray 64 (0, 0)) := by rw [hw2, heap_alloc_if, if_pos (by simp)]
  have ht : w2.heap[W.heap.size]? = some (.cells hdZero.cells.toArray 64 (0, 0)) := by rw [hw2, heap_alloc_if, if_neg (by simp), heap_alloc_if, if_pos rfl]
  have hml : m ≤ l.length := by omega
  have hcall := packRead_any ⟨(l.take 12).toArray⟩ 65 #[.pointer (some ⟨W.heap.size + 1, 0, none⟩)] w2 (fun k => k = W.heap.size + 1)
    (fun x w' => (12 ≤ l.length → x = .ok ByteArray.empty ∧ w'.heap[W.heap.size + 1]? = some (.cells (hdRead l).cells.toArray 64 (0, 0))) ∧ (l.length < 12 → x = .ref 2))
    (by rw [mk_size]; simp; omega) (fun a w => enters_fn Try.func65 (by kernel_rfl) rfl _ w) (fun k h => by omega)
    (fun w hfw hrd => (decode1_any (w2.heap.size + 1) (W.heap.size + 1) (l.take 12) w hrd (by rw [hfw.block _ (by omega) (fun h => h)]; exact hq) (by omega) (by simp; omega)).mono (by
      rintro e w' ⟨a, b, c⟩
      refine ⟨a.mono (fun k _ hk => by rcases hk with hk | hk; left; unfold wS; omega; right; exact hk), ?_⟩
      by_cases h12 : 12 ≤ l.length
      · obtain ⟨b1, b2, b3⟩ := b (by simp; omega)
        subst b1
        exact ⟨_, .ok _ b2, fun _ => ⟨rfl, by rw [b3, hdRead_take]⟩, fun h => by omega⟩
      · have c1 := c (by simp; omega)
        subst c1
        exact ⟨_, .ref 2 (by decide), fun h => absurd h h12, fun _ => rfl⟩))
  have hex : (ByteArray.mk l.toArray).extract 0 m = ⟨(l.take 12).toArray⟩ := by
    rw [mk_extract, hm]; congr 2; simp [List.take_eq_take_iff]; omega
  have HC := Lib.hid hcall; clear hcall
  have HF2 := Lib.hid hf2; clear hf2
  have HT := Lib.hid ht; clear ht
  have HW2 := Lib.hid hw2; clear hw2
  have HEX := Lib.hid hex; clear hex
  clear hq hm
  go_enter Try.func31, Try.ntmps31
  go_wp2_with fail
  rw [HEX.out]
  have hw2' : w2 = (W.alloc (.cells #[.int .u16 0, .bool false, .int .u8 0, .bool false, .bool false, .bool false, .bool false, .int .u8 0, .int .u8 0, .int .u16 0, .int .u16 0, .int .u16 0, .int .u16 0] 64)).alloc (.cells #[.int .u16 0, .bool false, .int .u8 0, .bool false, .bool false, .bool false, .bool false, .int .u8 0, .int .u8 0, .int .u16 0, .int .u16 0, .int .u16 0, .int .u16 0] 64) := HW2.out
  rw [← hw2']
  clear hw2'
  refine HC.out.mono ?_
  rintro e w3 ⟨w0, x, ⟨g1, g2⟩, rfl, hf3, hs3, hf4⟩
  have ht3 : w3.heap[W.heap.size]? = some (.cells hdZero.cells.toArray 64 (0, 0)) := by
    rw [hf4.block _ (by omega) (by omega)]; exact HT.out
  have hfr : Fr (fun k => W.heap.size ≤ k) W w3 := (HF2.out.mono (T := fun k => W.heap.size ≤ k) (fun k _ h => h.elim)).trans hf4 (by intro k hk; left; omega)
  have FR := Lib.hid hfr; clear hfr
  by_cases h12 : 12 ≤ l.length
  · obtain ⟨rfl, hq0⟩ := g1 h12
    have hq3 : w3.heap[W.heap.size + 1]? = some (.cells (hdRead l).cells.toArray 64 (0, 0)) := by
      rw [hf3.block _ (by omega) (by omega)]; exact hq0
    have t0 : w3.cell? ⟨W.heap.size, 0, none⟩ = some (.int .u16 0) := by rw [Lib.cell_of_heap ht3]; rfl
    have y0 : w3.frozen? ⟨W.heap.size, 0, none⟩ = false := Lib.frozen_of_heap ht3 0
    have t1 : w3.cell? ⟨W.heap.size, 1, none⟩ = some (.bool false) := by rw [Lib.cell_of_heap ht3]; rfl
    have y1 : w3.frozen? ⟨W.heap.size, 1, none⟩ = false := Lib.frozen_of_heap ht3 1
    have t2 : w3.cell? ⟨W.heap.size, 2, none⟩ = some (.int .u8 0) := by rw [Lib.cell_of_heap ht3]; rfl
    have y2 : w3.frozen? ⟨W.heap.size, 2, none⟩ = false := Lib.frozen_of_heap ht3 2
    have t3 : w3.cell? ⟨W.heap.size, 3, none⟩ = some (.bool false) := by rw [Lib.cell_of_heap ht3]; rfl
    have y3 : w3.frozen? ⟨W.heap.size, 3, none⟩ = false := Lib.frozen_of_heap ht3 3
    have t4 : w3.cell? ⟨W.heap.size, 4, none⟩ = some (.bool false) := by rw [Lib.cell_of_heap ht3]; rfl
    have y4 : w3.frozen? ⟨W.heap.size, 4, none⟩ = false := Lib.frozen_of_heap ht3 4
    have t5 : w3.cell? ⟨W.heap.size, 5, none⟩ = some (.bool false) := by rw [Lib.cell_of_heap ht3]; rfl
    have y5 : w3.frozen? ⟨W.heap.size, 5, none⟩ = false := Lib.frozen_of_heap ht3 5
    have t6 : w3.cell? ⟨W.heap.size, 6, none⟩ = some (.bool false) := by rw [Lib.cell_of_heap ht3]; rfl
    have y6 : w3.frozen? ⟨W.heap.size, 6, none⟩ = false := Lib.frozen_of_heap ht3 6
    have t7 : w3.cell? ⟨W.heap.size, 7, none⟩ = some (.int .u8 0) := by rw [Lib.cell_of_heap ht3]; rfl
    have y7 : w3.frozen? ⟨W.heap.size, 7, none⟩ = false := Lib.frozen_of_heap ht3 7
    have t8 : w3.cell? ⟨W.heap.size, 8, none⟩ = some (.int .u8 0) := by rw [Lib.cell_of_heap ht3]; rfl
    have y8 : w3.frozen? ⟨W.heap.size, 8, none⟩ = false := Lib.frozen_of_heap ht3 8
    have t9 : w3.cell? ⟨W.heap.size, 9, none⟩ = some (.int .u16 0) := by rw [Lib.cell_of_heap ht3]; rfl
    have y9 : w3.frozen? ⟨W.heap.size, 9, none⟩ = false := Lib.frozen_of_heap ht3 9
    have t10 : w3.cell? ⟨W.heap.size, 10, none⟩ = some (.int .u16 0) := by rw [Lib.cell_of_heap ht3]; rfl
    have y10 : w3.frozen? ⟨W.heap.size, 10, none⟩ = false := Lib.frozen_of_heap ht3 10
    have t11 : w3.cell? ⟨W.heap.size, 11, none⟩ = some (.int .u16 0) := by rw [Lib.cell_of_heap ht3]; rfl
    have y11 : w3.frozen? ⟨W.heap.size, 11, none⟩ = false := Lib.frozen_of_heap ht3 11
    have t12 : w3.cell? ⟨W.heap.size, 12, none⟩ = some (.int .u16 0) := by rw [Lib.cell_of_heap ht3]; rfl
    have y12 : w3.frozen? ⟨W.heap.size, 12, none⟩ = false := Lib.frozen_of_heap ht3 12
    have q0 : w3.cell? ⟨W.heap.size + 1, 0, none⟩ = some (.int .u16 (hdRead l).id) := by rw [Lib.cell_of_heap hq3]; rfl
    have q1 : w3.cell? ⟨W.heap.size + 1, 1, none⟩ = some (.bool (hdRead l).resp) := by rw [Lib.cell_of_heap hq3]; rfl
    have q2 : w3.cell? ⟨W.heap.size + 1, 2, none⟩ = some (.int .u8 (hdRead l).op) := by rw [Lib.cell_of_heap hq3]; rfl
    have q3 : w3.cell? ⟨W.heap.size + 1, 3, none⟩ = some (.bool (hdRead l).auth) := by rw [Lib.cell_of_heap hq3]; rfl
    have q4 : w3.cell? ⟨W.heap.size + 1, 4, none⟩ = some (.bool (hdRead l).trunc) := by rw [Lib.cell_of_heap hq3]; rfl
    have q5 : w3.cell? ⟨W.heap.size + 1, 5, none⟩ = some (.bool (hdRead l).des) := by rw [Lib.cell_of_heap hq3]; rfl
    have q6 : w3.cell? ⟨W.heap.size + 1, 6, none⟩ = some (.bool (hdRead l).avail) := by rw [Lib.cell_of_heap hq3]; rfl
    have q7 : w3.cell? ⟨W.heap.size + 1, 7, none⟩ = some (.int .u8 (hdRead l).zero) := by rw [Lib.cell_of_heap hq3]; rfl
    have q8 : w3.cell? ⟨W.heap.size + 1, 8, none⟩ = some (.int .u8 (hdRead l).code) := by rw [Lib.cell_of_heap hq3]; rfl
    have q9 : w3.cell? ⟨W.heap.size + 1, 9, none⟩ = some (.int .u16 (hdRead l).c0) := by rw [Lib.cell_of_heap hq3]; rfl
    have q10 : w3.cell? ⟨W.heap.size + 1, 10, none⟩ = some (.int .u16 (hdRead l).c1) := by rw [Lib.cell_of_heap hq3]; rfl
    have q11 : w3.cell? ⟨W.heap.size + 1, 11, none⟩ = some (.int .u16 (hdRead l).c2) := by rw [Lib.cell_of_heap hq3]; rfl
    have q12 : w3.cell? ⟨W.heap.size + 1, 12, none⟩ = some (.int .u16 (hdRead l).c3) := by rw [Lib.cell_of_heap hq3]; rfl
    have hlt : ¬ l.length < 12 := by omega
    clear ht3 hq3 hq0 g1 g2 hf3 hf4 hite hmin
    show (match ROut.ending (ROut.ok ByteArray.empty), w3 with | _, _ => _)
    unfold ROut.ending
    go_wp2_with fail
    refine bodyPost_ret (v := .tuple #[(hdRead l).val, .int .i64 0]) (by simp [results, Try.results31, go_sem, t0, t1, t2, t3, t4, t5, t6, t7, t8, t9, t10, t11, t12, Hd.val]) rfl ⟨?_, ?_⟩
    · exact Fr.mono (S := fun k => W.heap.size ≤ k) (((((((((((((FR.out.setCell (p := ⟨W.heap.size, 0, none⟩) (.inl (Nat.le_refl _)) _).setCell (p := ⟨W.heap.size, 1, none⟩) (.inl (Nat.le_refl _)) _).setCell (p := ⟨W.heap.size, 2, none⟩) (.inl (Nat.le_refl _)) _).setCell (p := ⟨W.heap.size, 3, none⟩) (.inl (Nat.le_refl _)) _).setCell (p := ⟨W.heap.size, 4, none⟩) (.inl (Nat.le_refl _)) _).setCell (p := ⟨W.heap.size, 5, none⟩) (.inl (Nat.le_refl _)) _).setCell (p := ⟨W.heap.size, 6, none⟩) (.inl (Nat.le_refl _)) _).setCell (p := ⟨W.heap.size, 7, none⟩) (.inl (Nat.le_refl _)) _).setCell (p := ⟨W.heap.size, 8, none⟩) (.inl (Nat.le_refl _)) _).setCell (p := ⟨W.heap.size, 9, none⟩) (.inl (Nat.le_refl _)) _).setCell (p := ⟨W.heap.size, 10, none⟩) (.inl (Nat.le_refl _)) _).setCell (p := ⟨W.heap.size, 11, none⟩) (.inl (Nat.le_refl _)) _).setCell (p := ⟨W.heap.size, 12, none⟩) (.inl (Nat.le_refl _)) _) (fun k hk h => by omega)
    · rw [if_neg hlt]
  · have hlt : l.length < 12 := by omega
    have hx := g2 hlt
    subst hx
    have t0 : w3.cell? ⟨W.heap.size, 0, none⟩ = some (.int .u16 0) := by rw [Lib.cell_of_heap ht3]; rfl
    have y0 : w3.frozen? ⟨W.heap.size, 0, none⟩ = false := Lib.frozen_of_heap ht3 0
    have t1 : w3.cell? ⟨W.heap.size, 1, none⟩ = some (.bool false) := by rw [Lib.cell_of_heap ht3]; rfl
    have y1 : w3.frozen? ⟨W.heap.size, 1, none⟩ = false := Lib.frozen_of_heap ht3 1
    have t2 : w3.cell? ⟨W.heap.size, 2, none⟩ = some (.int .u8 0) := by rw [Lib.cell_of_heap ht3]; rfl
    have y2 : w3.frozen? ⟨W.heap.size, 2, none⟩ = false := Lib.frozen_of_heap ht3 2
    have t3 : w3.cell? ⟨W.heap.size, 3, none⟩ = some (.bool false) := by rw [Lib.cell_of_heap ht3]; rfl
    have y3 : w3.frozen? ⟨W.heap.size, 3, none⟩ = false := Lib.frozen_of_heap ht3 3
    have t4 : w3.cell? ⟨W.heap.size, 4, none⟩ = some (.bool false) := by rw [Lib.cell_of_heap ht3]; rfl
    have y4 : w3.frozen? ⟨W.heap.size, 4, none⟩ = false := Lib.frozen_of_heap ht3 4
    have t5 : w3.cell? ⟨W.heap.size, 5, none⟩ = some (.bool false) := by rw [Lib.cell_of_heap ht3]; rfl
    have y5 : w3.frozen? ⟨W.heap.size, 5, none⟩ = false := Lib.frozen_of_heap ht3 5
    have t6 : w3.cell? ⟨W.heap.size, 6, none⟩ = some (.bool false) := by rw [Lib.cell_of_heap ht3]; rfl
    have y6 : w3.frozen? ⟨W.heap.size, 6, none⟩ = false := Lib.frozen_of_heap ht3 6
    have t7 : w3.cell? ⟨W.heap.size, 7, none⟩ = some (.int .u8 0) := by rw [Lib.cell_of_heap ht3]; rfl
    have y7 : w3.frozen? ⟨W.heap.size, 7, none⟩ = false := Lib.frozen_of_heap ht3 7
    have t8 : w3.cell? ⟨W.heap.size, 8, none⟩ = some (.int .u8 0) := by rw [Lib.cell_of_heap ht3]; rfl
    have y8 : w3.frozen? ⟨W.heap.size, 8, none⟩ = false := Lib.frozen_of_heap ht3 8
    have t9 : w3.cell? ⟨W.heap.size, 9, none⟩ = some (.int .u16 0) := by rw [Lib.cell_of_heap ht3]; rfl
    have y9 : w3.frozen? ⟨W.heap.size, 9, none⟩ = false := Lib.frozen_of_heap ht3 9
    have t10 : w3.cell? ⟨W.heap.size, 10, none⟩ = some (.int .u16 0) := by rw [Lib.cell_of_heap ht3]; rfl
    have y10 : w3.frozen? ⟨W.heap.size, 10, none⟩ = false := Lib.frozen_of_heap ht3 10
    have t11 : w3.cell? ⟨W.heap.size, 11, none⟩ = some (.int .u16 0) := by rw [Lib.cell_of_heap ht3]; rfl
    have y11 : w3.frozen? ⟨W.heap.size, 11, none⟩ = false := Lib.frozen_of_heap ht3 11
    have t12 : w3.cell? ⟨W.heap.size, 12, none⟩ = some (.int .u16 0) := by rw [Lib.cell_of_heap ht3]; rfl
    have y12 : w3.frozen? ⟨W.heap.size, 12, none⟩ = false := Lib.frozen_of_heap ht3 12
    clear ht3 g1 g2 hf3 hf4 hite hmin h12
    show (match ROut.ending (ROut.ref 2), w3 with | _, _ => _)
    unfold ROut.ending
    go_wp2_with fail
    refine bodyPost_ret (v := .tuple #[hdZero.val, .int .i64 2]) (by simp [results, Try.results31, go_sem, t0, t1, t2, t3, t4, t5, t6, t7, t8, t9, t10, t11, t12, Hd.val, hdZero]) rfl ⟨?_, ?_⟩
    · exact Fr.mono (S := fun k => W.heap.size ≤ k) (((((((((((((FR.out.setCell (p := ⟨W.heap.size, 0, none⟩) (.inl (Nat.le_refl _)) _).setCell (p := ⟨W.heap.size, 1, none⟩) (.inl (Nat.le_refl _)) _).setCell (p := ⟨W.heap.size, 2, none⟩) (.inl (Nat.le_refl _)) _).setCell (p := ⟨W.heap.size, 3, none⟩) (.inl (Nat.le_refl _)) _).setCell (p := ⟨W.heap.size, 4, none⟩) (.inl (Nat.le_refl _)) _).setCell (p := ⟨W.heap.size, 5, none⟩) (.inl (Nat.le_refl _)) _).setCell (p := ⟨W.heap.size, 6, none⟩) (.inl (Nat.le_refl _)) _).setCell (p := ⟨W.heap.size, 7, none⟩) (.inl (Nat.le_refl _)) _).setCell (p := ⟨W.heap.size, 8, none⟩) (.inl (Nat.le_refl _)) _).setCell (p := ⟨W.heap.size, 9, none⟩) (.inl (Nat.le_refl _)) _).setCell (p := ⟨W.heap.size, 10, none⟩) (.inl (Nat.le_refl _)) _).setCell (p := ⟨W.heap.size, 11, none⟩) (.inl (Nat.le_refl _)) _).setCell (p := ⟨W.heap.size, 12, none⟩) (.inl (Nat.le_refl _)) _) (fun k hk h => by omega)
    · rw [if_pos hlt]
end Go.Proofs.Ytkclgemkeifbaaa
