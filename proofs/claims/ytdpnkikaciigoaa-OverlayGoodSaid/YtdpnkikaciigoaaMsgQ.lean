/-
  Messages that carry nodes only: two that are the same are told to be.
-/
import Derived.Test.YtdpnkikaciigoaaView
import Derived.Deep.CutBlock
import Derived.Deep.CutRange
namespace Go.Proofs.Ytdpnkikaciigoaa
open Go.RowKit Go.Proofs

abbrev MInt.cells (x : Int) : List Value := [.int .i64 x]
theorem take_eq_succ {α : Type} {l1 l2 : List α} {k : Nat} (h1 : k < l1.length) (h2 : k < l2.length) (h : l1.take k = l2.take k) (he : l1[k] = l2[k]) : l1.take (k + 1) = l2.take (k + 1) := by
  rw [List.take_succ_eq_append_getElem h1, List.take_succ_eq_append_getElem h2, h, he]
theorem ne_of_get {α : Type} {l1 l2 : List α} {k : Nat} (h1 : k < l1.length) (h2 : k < l2.length) (he : l1[k] ≠ l2[k]) : l1 ≠ l2 := by
  intro h; subst h; exact he rfl

set_option maxHeartbeats 1000000 in
set_option maxRecDepth 100000 in
theorem equal_int (a1 a2 : Option Addr) (c1 c2 : Nat) (l1 l2 : List Int) (w : World) (h1 : SlA w a1 l1.length c1 (l1.flatMap MInt.cells)) (h2 : SlA w a2 l2.length c2 (l2.flatMap MInt.cells)) :
    Calls Try.prog 84 #[.slice a1 l1.length c1, .slice a2 l2.length c2] w fun e w' => e = .returned (.bool (decide (l1 = l2))) ∧ ∃ n, w' = w.drewN n := by
  have hle1 := h1.le
  have hmx1 := h1.max
  have hle2 := h2.le
  have hmx2 := h2.max
  have H1 := Lib.hid h1; clear h1
  have H2 := Lib.hid h2; clear h2
  by_cases hl : l1.length = l2.length
  case neg =>
    have hd : decide (l1 = l2) = false := by simp; intro h; exact hl (by rw [h])
    have HD := Lib.hid hd
    clear hd
    have hn : decide ((l1.length : Int) = (l2.length : Int)) = false := by simp; omega
    go_enter Try.func84, Try.ntmps84
    go_wp2_with fail
    go_ret
    exact ⟨by rw [HD.out]; rfl, 0, rfl⟩
  case pos =>
    have HL := Lib.hid hl
    obtain ⟨n, hn⟩ : ∃ n, n = l1.length := ⟨_, rfl⟩
    have hn2 : n = l2.length := by omega
    have HN1 := Lib.hid hn
    have HN2 := Lib.hid hn2
    rw [← hn] at hle1
    rw [← hn2] at hle2
    clear hl
    rw [← hn, ← hn2]
    clear hn hn2
    go_enter Try.func84, Try.ntmps84
    go_wp2_with fail
    go_loopw [5, 13] (fun jv iv wr => ∃ k : Nat, iv = .int .i64 k ∧ k ≤ n ∧ Hid (l1.take k = l2.take k) ∧ ∃ q, wr = w.drewN q) (fun _ iv _ => n - (intOf iv).toNat)
    case atStart => exact ⟨0, rfl, Nat.zero_le _, Lib.hid rfl, 0, rfl⟩
    case round =>
      obtain ⟨k, rfl, hk, HT, q, rfl⟩ := hrel
      by_cases hlt : k < n
      · have hk1 : k < l1.length := by have := HN1.out; omega
        have hk2 : k < l2.length := by have := HN2.out; omega
        obtain ⟨b1, o1, rfl, hc⟩ := H1.out.elem (f := MInt.cells) (n := 1) (fun _ => rfl) (by decide) k hk1
        have hc1_0 := hc 0 _ rfl
        clear hc
        obtain ⟨b2, o2, rfl, hc⟩ := H2.out.elem (f := MInt.cells) (n := 1) (fun _ => rfl) (by decide) k hk2
        have hc2_0 := hc 0 _ rfl
        clear hc
        have HS : Hid (l1[k] = l2[k] → l1.take (k + 1) = l2.take (k + 1)) := Lib.hid (take_eq_succ hk1 hk2 HT.out)
        have HX : Hid (l1[k] ≠ l2[k] → l1 ≠ l2) := Lib.hid (ne_of_get hk1 hk2)
        generalize l1[k] = x at *
        generalize l2[k] = y at *
        clear hk1 hk2
        simp only [Nat.add_zero, Nat.mul_one] at hc1_0 hc2_0
        by_cases he : x = y
        · have HS2 := Lib.hid (HS.out he)
          have hb : (x == y) = true := by simpa using he
          clear HS HX he
          go_wp2_with fail
          go_quiet (fail)
          go_wp2_with fail
          go_roundw
          case rel => exact ⟨k + 1, by go_num, by omega, HS2, _, rfl⟩
          case measure => simp [intOf]; omega
        · have HX2 := Lib.hid (HX.out he)
          have hb : (x == y) = false := by simpa using he
          have hb2 : decide (x = y) = false := by simpa using he
          clear HS HX he
          go_wp2_with fail
          go_quiet (fail)
          go_wp2_with fail
          go_ret
          exact ⟨by rw [decide_eq_false HX2.out]; rfl, _, World.drewN_drewN w _ _⟩
      · have hEQ : l1 = l2 := by
          have := HT.out
          rwa [List.take_of_length_le (by have := HN1.out; omega), List.take_of_length_le (by have := HN2.out; omega)] at this
        have HE := Lib.hid hEQ
        clear hEQ
        go_wp2_with fail
        go_ret
        exact ⟨by rw [decide_eq_true HE.out]; rfl, q, rfl⟩

set_option maxHeartbeats 1000000 in
set_option maxRecDepth 100000 in
theorem equal_id_nil (w : World) : Calls Try.prog 85 #[.slice none 0 0, .slice none 0 0] w fun e w' => e = .returned (.bool true) ∧ w = w' := by
  go_enter Try.func85, Try.ntmps85
  go_wp2_with fail
  go_loopw [13] (fun iv wr => iv = .int .i64 0 ∧ w = wr) (fun _ _ => 0)
  case atStart => exact ⟨rfl, rfl⟩
  case round =>
    obtain ⟨rfl, rfl⟩ := hrel
    go_wp2_with fail
    go_ret
    exact ⟨rfl, rfl⟩

set_option maxHeartbeats 1000000 in
set_option maxRecDepth 100000 in
theorem equal_rec_nil (w : World) : Calls Try.prog 86 #[.slice none 0 0, .slice none 0 0] w fun e w' => e = .returned (.bool true) ∧ w = w' := by
  go_enter Try.func86, Try.ntmps86
  go_wp2_with fail
  go_loopw [13] (fun iv wr => iv = .int .i64 0 ∧ w = wr) (fun _ _ => 0)
  case atStart => exact ⟨rfl, rfl⟩
  case round =>
    obtain ⟨rfl, rfl⟩ := hrel
    go_wp2_with fail
    go_ret
    exact ⟨rfl, rfl⟩

theorem flat_ints (l : List Int) : l.flatMap MInt.cells = l.map (Value.int .i64) := by
  induction l with
  | nil => rfl
  | cons x r ih => simp only [List.flatMap_cons, ih, List.map_cons, MInt.cells, List.singleton_append]
theorem equalQ (a1 a2 : Option Addr) (c1 c2 : Nat) (l : List Int) (w : World) (h1 : SlA w a1 l.length c1 (l.map (Value.int .i64))) (h2 : SlA w a2 l.length c2 (l.map (Value.int .i64))) :
    Calls Try.prog 84 #[.slice a1 l.length c1, .slice a2 l.length c2] w fun e w' => e = .returned (.bool true) ∧ Gr w w' := by
  refine (equal_int a1 a2 c1 c2 l l w (by rw [flat_ints]; exact h1) (by rw [flat_ints]; exact h2)).mono ?_
  rintro e w' ⟨rfl, n, rfl⟩
  exact ⟨by simp, (Fr.refl _ _).drewN n⟩

structure Mq where
  kind : Int
  node : Int
  walk : Int
  high : Bool
  nodes : List Int
abbrev Mq.arr (m : Mq) (a : Option Addr) (c : Nat) : Array Value := #[.int .i64 m.kind, .int .i64 m.node, .int .i64 m.walk, .bool m.high, .slice a m.nodes.length c, .slice none 0 0, .slice none 0 0]

set_option maxHeartbeats 4000000 in
set_option maxRecDepth 100000 in
theorem sameQ_any (m : Mq) (a b : Option Addr) (c d : Nat) (W : World) (h1 : SlA W a m.nodes.length c (m.nodes.map (Value.int .i64))) (h2 : SlA W b m.nodes.length d (m.nodes.map (Value.int .i64))) :
    Calls Try.prog 45 #[.agg (m.arr a c), .agg (m.arr b d)] W fun e w' => e = .returned (.bool true) ∧ Gr W w' := by
  obtain ⟨w1, hw1⟩ : ∃ w1, w1 = (W.alloc (.cells (m.arr a c) 89)).alloc (.cells (m.arr b d) 89) := ⟨_, rfl⟩
  have f1 : Gr W w1 := by rw [hw1]; exact ((Fr.refl _ _).alloc _).alloc _
  have X1 := Lib.hid (show w1.heap[W.heap.size]? = some (.cells (m.arr a c) 89 (0, 0)) by rw [hw1, heap_alloc_if, if_neg (by simp), heap_alloc_if, if_pos rfl])
  have Y1 := Lib.hid (show w1.heap[W.heap.size + 1]? = some (.cells (m.arr b d) 89 (0, 0)) by rw [hw1, heap_alloc_if, if_pos (by simp)])
  have HW := Lib.hid hw1
  have F1 := Lib.hid f1
  have E1 := Lib.hid (fun w (f : Gr w1 w) => equalQ a b c d m.nodes w (h1.keep (Gr.trans f1 f) (fun _ _ h => h)) (h2.keep (Gr.trans f1 f) (fun _ _ h => h)))
  clear hw1 f1
  go_enter Try.func45, Try.ntmps45
  go_upto_region 1 with fail
  rw [← HW.out]
  clear HW
  have x0 := (Bx.of_block X1.out) 0 _ rfl
  have x1 := (Bx.of_block X1.out) 1 _ rfl
  have x2 := (Bx.of_block X1.out) 2 _ rfl
  have x3 := (Bx.of_block X1.out) 3 _ rfl
  have x4 := (Bx.of_block X1.out) 4 _ rfl
  have y0 := (Bx.of_block Y1.out) 0 _ rfl
  have y1 := (Bx.of_block Y1.out) 1 _ rfl
  have y2 := (Bx.of_block Y1.out) 2 _ rfl
  have y3 := (Bx.of_block Y1.out) 3 _ rfl
  have y4 := (Bx.of_block Y1.out) 4 _ rfl
  go_wp2_with fail
  refine (E1.out _ (Fr.refl _ _)).mono ?_
  rintro e w2 ⟨rfl, f2⟩
  have X2 := Lib.hid (blk_keep f2 X1.out (fun h => h))
  have Y2 := Lib.hid (blk_keep f2 Y1.out (fun h => h))
  have F2 := Lib.hid (Gr.trans F1.out f2)
  clear f2 X1 Y1 F1 E1 x0 x1 x2 x3 x4 y0 y1 y2 y3 y4
  have x5 := (Bx.of_block X2.out) 5 _ rfl
  have x6 := (Bx.of_block X2.out) 6 _ rfl
  have y5 := (Bx.of_block Y2.out) 5 _ rfl
  have y6 := (Bx.of_block Y2.out) 6 _ rfl
  go_wp2_with fail
  refine (equal_id_nil _).mono ?_
  rintro e w3 ⟨rfl, rfl⟩
  go_wp2_with fail
  refine (equal_rec_nil _).mono ?_
  rintro e w3 ⟨rfl, rfl⟩
  go_wp2_with fail
  go_ret
  exact ⟨rfl, F2.out⟩
end Go.Proofs.Ytdpnkikaciigoaa
