/-
  The walk of NodesetZero.
-/
import Derived.Test.YtoniebocphjmgaaSetS
namespace Go.Proofs.Ytoniebocphjmgaa
open Go.RowKit Go.Proofs

set_option maxHeartbeats 2000000 in
set_option maxRecDepth 100000 in
theorem nodesetZero_walk (n : Int) (w : World) : Calls Try.prog 14 #[.int .i64 n] w fun e w' => e = .returned (.bool true) ∧ Gr w w' := by
  have s1 : sAdd [] 0 n = [] := by
    unfold sAdd
    rw [if_neg (by simp [has]), if_neg (by simp)]
  have o1 : sAddOk [] 0 n = false := by
    unfold sAddOk
    rw [show has [] n = false by simp [has], show decide ((([] : List Int).length : Int) < 0) = false by simp]; simp
  have s2 : sDrop [] n = [] := by unfold sDrop; rw [if_neg (by simp [has])]
  have o2 : has [] n = false := by simp [has]
  have g0 : Good [] 0 := Good.nil (by decide) (by decide)
  have A1 := Lib.hid (fun w => s1 ▸ o1 ▸ setAdd_any none 0 [] 0 n w (SlA.nil _) g0)
  have A2 := Lib.hid (fun w => s2 ▸ o2 ▸ setDrop_any none 0 [] 0 n w (SlA.nil _) g0)
  have A3 := Lib.hid (fun w => o2 ▸ setHas_any none 0 [] 0 n w (SlA.nil _) g0)
  have G := Lib.hid g0
  clear s1 o1 s2 o2 g0
  go_enter Try.func14, Try.ntmps14
  go_wp2_with fail
  refine (speaks03_any _).mono ?_
  rintro e w1 ⟨rfl, f1⟩
  have F1 := Lib.hid f1; clear f1
  have b1 := box_new w1 (.slice none 0 0) (.int .i64 0) 80
  have i0 := b1.c0
  have i1 := b1.c1
  go_wp2_with fail
  refine (A1.out _).mono ?_
  rintro e w2 ⟨a2, c2, rfl, h2, f2, -⟩
  have b2 := b1.keep f2 (fun h => h)
  have F2 := Lib.hid ((F1.out.trans (gr_alloc _ _)).trans f2)
  have b3 := b2.keep (gr_alloc w2 (.cells #[.slice a2 0 c2, .int .i64 0] 80)) (fun h => h)
  have B := Lib.hid b3
  clear i0 i1 b1 f2 h2
  have i0 := b3.c0
  have i1 := b3.c1
  have i2 := b2.c0
  have hlt := lt_of_cell i2
  simp only at hlt
  have j3 := Lib.hid (box_new w2 (.slice a2 0 c2) (.int .i64 0) 80)
  clear b2 b3 i2
  go_wp2_with fail
  refine (A2.out _).mono ?_
  rintro e w3 ⟨a3, c3, rfl, h3, f3, -⟩
  have F3 := Lib.hid ((F2.out.trans (gr_alloc _ _)).trans f3)
  have b3 := B.out.keep f3 (fun h => h)
  have j4 := j3.out.keep f3 (fun h => h)
  have b4 := b3.keep (gr_alloc w3 (.cells #[.slice a3 0 c3, .int .i64 0] 80)) (fun h => h)
  have j5 := j4.keep (gr_alloc w3 (.cells #[.slice a3 0 c3, .int .i64 0] 80)) (fun h => h)
  clear i0 i1 h3 f3 B j3
  have i0 := b4.c0
  have i1 := b4.c1
  have k0 := j5.c0
  have k1 := j5.c1
  have l0 := lt_of_cell b3.c0
  have l1 := lt_of_cell j4.c0
  simp only at l0 l1
  have B := Lib.hid b4
  clear b3 j4 b4 j5
  go_wp2_with fail
  refine (setLen_any a2 0 c2 0 _).mono ?_
  rintro e w4 ⟨rfl, f4⟩
  have F4 := Lib.hid ((F3.out.trans (gr_alloc _ _)).trans f4)
  have b5 := B.out.keep f4 (fun h => h)
  clear i0 i1 k0 k1 l0 l1 hlt f4 B
  have i0 := b5.c0
  have i1 := b5.c1
  have B := Lib.hid b5
  clear b5
  go_wp2_with fail
  refine (setFull_any none 0 0 0 _).mono ?_
  rintro e w5 ⟨rfl, f5⟩
  have F5 := Lib.hid (F4.out.trans f5)
  have b6 := B.out.keep f5 (fun h => h)
  clear i0 i1 f5 B
  have i0 := b6.c0
  have i1 := b6.c1
  have B := Lib.hid b6
  clear b6
  go_wp2_with fail
  refine (A3.out _).mono ?_
  rintro e w6 ⟨rfl, f6⟩
  have F6 := Lib.hid (F5.out.trans f6)
  have b7 := B.out.keep f6 (fun h => h)
  clear i0 i1 f6 B
  have i0 := b7.c0
  have i1 := b7.c1
  have B := Lib.hid b7
  clear b7
  go_wp2_with fail
  refine (setAll_any none 0 [] 0 _ (SlA.nil _) G.out).mono ?_
  rintro e w7 ⟨v, rfl, ho, hb⟩
  obtain ⟨a7, c7, rfl, -, -⟩ := SlA.of_own ho
  have f7 := Gr.of_below hb
  have F7 := Lib.hid (F6.out.trans f7)
  have b8 := B.out.keep f7 (fun h => h)
  clear i0 i1 f7 B ho hb
  have i0 := b8.c0
  have i1 := b8.c1
  clear b8
  go_wp2_with fail
  refine (setBut_any none 0 [] 0 none 0 [] _ (SlA.nil _) (SlA.nil _) G.out).mono ?_
  rintro e w8 ⟨a8, c8, rfl, -, f8⟩
  have F8 := Lib.hid (F7.out.trans f8)
  clear i0 i1 f8
  go_wp2_with fail
  go_ret
  exact ⟨rfl, F8.out⟩
end Go.Proofs.Ytoniebocphjmgaa
