/-
  Package nodeset: sets in boxes; the law's speaks.
-/
import Derived.Test.YtoniebocphjmgaaSetBut
import Derived.Test.YtoniebocphjmgaaSetSort
namespace Go.Proofs.Ytoniebocphjmgaa
open Go.RowKit Go.Proofs

/-- a box that holds two values -/
def Box (w : World) (k : Nat) (x y : Value) : Prop := ∃ e, w.heap[k]? = some (.cells #[x, y] e (0, 0))
theorem Box.c0 {w : World} {k : Nat} {x y : Value} (h : Box w k x y) : w.cell? ⟨k, 0, none⟩ = some x := by obtain ⟨e, h⟩ := h; rw [Lib.cell_of_heap h]; rfl
theorem Box.c1 {w : World} {k : Nat} {x y : Value} (h : Box w k x y) : w.cell? ⟨k, 1, none⟩ = some y := by obtain ⟨e, h⟩ := h; rw [Lib.cell_of_heap h]; rfl
theorem Box.z {w : World} {k : Nat} {x y : Value} (h : Box w k x y) (i : Nat) : w.frozen? ⟨k, i, none⟩ = false := by obtain ⟨e, h⟩ := h; exact Lib.frozen_of_heap h i
theorem Box.lt {w : World} {k : Nat} {x y : Value} (h : Box w k x y) : k < w.heap.size := by
  have := lt_of_cell h.c0; simpa using this
theorem Box.keep {S : Nat → Prop} {w w' : World} {k : Nat} {x y : Value} (h : Box w k x y) (f : Fr S w w') (hS : ¬ S k) : Box w' k x y := by
  have hl := h.lt
  obtain ⟨e, h⟩ := h
  exact ⟨e, by rw [f.block k hl hS]; exact h⟩
theorem Box.set {w : World} {k : Nat} {x y : Value} (h : Box w k x y) (u v : Value) : Box ((w.setCell ⟨k, 0, none⟩ u).setCell ⟨k, 1, none⟩ v) k u v := by
  obtain ⟨e, h⟩ := h
  exact ⟨e, by rw [blk_set1 (blk_set1 h 0 u) 1 v]; rfl⟩
theorem box_new (w : World) (x y : Value) (e : TypeId) : Box (w.alloc (.cells #[x, y] e)) w.heap.size x y := ⟨e, by rw [heap_alloc_if', if_pos rfl]⟩
theorem gr_alloc (w : World) (o : Obj) : Gr w (w.alloc o) := (Fr.refl _ _).alloc _
theorem fr_set (w : World) (k : Nat) (u v : Value) : Fr (fun i => i = k) w ((w.setCell ⟨k, 0, none⟩ u).setCell ⟨k, 1, none⟩ v) := fr_two w w k u v (Fr.refl _ _)

theorem SlA.blk {w : World} {a : Option Addr} {n cap : Nat} {x : Int} {l : List Int} (h : SlA w a n cap (ints (x :: l))) (p : Addr) (hp : a = some p) : p.block < w.heap.size := by
  obtain ⟨b, o, h1, h2⟩ := h.lt (by simp [ints])
  rw [h1] at hp; cases hp; exact h2

set_option maxHeartbeats 2000000 in
set_option maxRecDepth 100000 in
theorem speaks03_any (w : World) : Calls Try.prog 48 #[] w fun e w' => e = .returned (.bool true) ∧ Gr w w' := by
  have hn : min (max (2 : Int) 0) 64 = 2 := by decide
  have s1 : sAdd [] 2 7 = [7] := by decide
  have s2 : sAdd [7] 2 3 = [3, 7] := by decide
  have s3 : sAdd [3, 7] 2 9 = [3, 7] := by decide
  have o1 : sAddOk [] 2 7 = true := by decide
  have o2 : sAddOk [7] 2 3 = true := by decide
  have o3 : sAddOk [3, 7] 2 9 = false := by decide
  have g0 : Good [] 2 := Good.nil (by decide) (by decide)
  have g1 : Good [7] 2 := s1 ▸ g0.add 7
  have g2 : Good [3, 7] 2 := s2 ▸ g1.add 3
  have HN := Lib.hid hn
  have A1 := Lib.hid (fun w hs => s1 ▸ o1 ▸ setAdd_any none 0 [] 2 7 w hs g0)
  have A2 := Lib.hid (fun a c w hs => s2 ▸ o2 ▸ setAdd_any a c [7] 2 3 w hs g1)
  have A3 := Lib.hid (fun a c w hs => s3 ▸ o3 ▸ setAdd_any a c [3, 7] 2 9 w hs g2)
  have G2 := Lib.hid g2
  clear hn s1 s2 s3 o1 o2 o3 g0 g1 g2
  go_enter Try.func48, Try.ntmps48
  go_wp2_with fail
  refine (setNew_any 2 _).mono ?_
  rintro e w1 ⟨rfl, f1⟩
  rw [HN.out]
  go_wp2_with fail
  refine (A1.out _ (SlA.nil _)).mono ?_
  rintro e w2 ⟨a2, c2, rfl, h2, f2, n2⟩
  have F2 := Lib.hid (f1.trans f2); clear f1 f2
  have H2 := Lib.hid h2; clear h2
  go_wp2_with fail
  refine (A2.out a2 c2 _ (H2.out.keep (gr_alloc _ _) (fun _ _ h => h))).mono ?_
  rintro e w3 ⟨a3, c3, rfl, h3, f3, n3⟩
  have b3 := (box_new w2 (.slice a2 1 c2) (.int .i64 2) 80).keep f3 (fun h => h)
  have F3 := Lib.hid (F2.out.trans ((gr_alloc _ _).trans f3)); clear f3
  have k3 : Hid (w.heap.size ≤ w2.heap.size) := Lib.hid F2.out.size
  have i0 := b3.c0
  have i1 := b3.c1
  have z0 := b3.z 0
  have z1 := b3.z 1
  have b4 := Lib.hid (b3.set (.slice a3 2 c3) (.int .i64 2)); clear b3
  have f4 := fr_set w3 w2.heap.size (.slice a3 2 c3) (.int .i64 2)
  have hlt3 := lt_of_cell i0
  simp only at hlt3
  have ha3 : ∀ p, a3 = some p → ¬ p.block = w2.heap.size := fun p hp hk => by
    rcases n3 p hp with h | h
    · have := SlA.blk H2.out p h; omega
    · simp at h; omega
  clear n3 n2
  have H4 := Lib.hid (h3.keep f4 (fun p hp => ha3 p hp)); clear h3 ha3
  have F4 : Hid (Gr w _) := Lib.hid (Fr.trans F3.out f4 (fun k hk => .inr (by have : k = w2.heap.size := hk; have := k3.out; omega))); clear f4
  go_wp2_with fail
  refine (A3.out a3 c3 _ H4.out).mono ?_
  rintro e w5 ⟨a5, c5, rfl, _, f5, _⟩
  have b5 := b4.out.keep f5 (fun h => h)
  have H5 := Lib.hid (H4.out.keep f5 (fun _ _ h => h))
  have F5 := Lib.hid (F4.out.trans f5); clear f5
  clear b4 F4 H4 F3 H2 i0 i1 z0 z1
  have b6 := b5.keep (gr_alloc w5 (.cells #[.slice a5 2 c5, .int .i64 2] 80)) (fun h => h)
  have i0 := b6.c0
  have i1 := b6.c1
  have H6 := Lib.hid (H5.out.keep (gr_alloc w5 (.cells #[.slice a5 2 c5, .int .i64 2] 80)) (fun _ _ h => h))
  have F6 := Lib.hid (F5.out.trans (gr_alloc w5 (.cells #[.slice a5 2 c5, .int .i64 2] 80)))
  have B6 := Lib.hid b6; clear b5 b6 H5 F5
  go_wp2_with fail
  refine (setFull_any a3 2 c3 2 _).mono ?_
  rintro e w7 ⟨rfl, f7⟩
  have b7 := B6.out.keep f7 (fun h => h)
  have H7 := Lib.hid (H6.out.keep f7 (fun _ _ h => h))
  have F7 := Lib.hid (F6.out.trans f7); clear f7
  clear i0 i1
  have i0 := b7.c0
  have i1 := b7.c1
  clear b7 H6 F6 B6
  go_wp2_with fail
  refine (setAll_any a3 c3 [3, 7] 2 w7 H7.out G2.out).mono ?_
  rintro e w8 ⟨v, rfl, ho, hb⟩
  obtain ⟨a8, c8, rfl, h8, _⟩ := SlA.of_own ho
  have F8 := Lib.hid (F7.out.trans (Gr.of_below hb))
  have H8 := Lib.hid h8
  clear ho hb h8 i0 i1
  go_wp2_with fail
  have hb9 : SlA (w8.alloc (.cells #[.int .i64 3, .int .i64 7] 3)) (some ⟨w8.heap.size, 0, none⟩) 2 2 (ints [3, 7]) :=
    sla_blk (c := #[.int .i64 3, .int .i64 7]) (by rw [heap_alloc_if', if_pos rfl]) (fun j x h => by
      match j, h with
      | 0, h => simpa using h
      | 1, h => simpa using h) (Nat.le_refl _) (by decide)
  refine (refSame_any a8 c8 [3, 7] (some ⟨w8.heap.size, 0, none⟩) 2 [3, 7] _ (H8.out.keep (gr_alloc _ _) (fun _ _ h => h)) hb9).mono ?_
  rintro e w9 ⟨rfl, q, rfl⟩
  rw [(same_iff [3, 7] [3, 7]).2 rfl]
  have F9 := Lib.hid ((F8.out.trans (gr_alloc w8 (.cells #[.int .i64 3, .int .i64 7] 3))).drewN q)
  clear hb9
  go_wp2_with fail
  go_ret
  exact ⟨rfl, F9.out⟩
end Go.Proofs.Ytoniebocphjmgaa
