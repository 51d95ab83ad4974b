/-
  The walk of MessageSames (printed by gen_sames.py).
-/
import Derived.Test.YtkclgemkeifbaaaMessageCodes
namespace Go.Proofs.Ytkclgemkeifbaaa
open Go.RowKit Go.Proofs

theorem out_eq_iff {a b : Msg} (ha : a.code = 0) (hb : b.code = 0) (fa : a.fits) (fb : b.fits) : a.out = b.out ↔ a = b := by
  constructor
  · intro h
    rw [Msg.out_enc ha, Msg.out_enc hb] at h
    have h1 := congrArg (fun s => s.data.toList) h
    simp only at h1
    exact Msg.enc_inj (Msg.code_zero.1 ha).1 fa (Msg.code_zero.1 hb).1 fb (by simpa using h1)
  · intro h; rw [h]
theorem heap_box {w : World} {q : Nat} {v0 v1 v2 v3 v4 v5 v6 : Value} {e : TypeId} (h : w.heap[q]? = some (.cells #[v0, v1, v2, v3, v4, v5, v6] e (0, 0))) (u0 u1 u2 u3 u4 u5 u6 : Value) :
    (((((((w.setCell ⟨q, 0, none⟩ u0).setCell ⟨q, 1, none⟩ u1).setCell ⟨q, 2, none⟩ u2).setCell ⟨q, 3, none⟩ u3).setCell ⟨q, 4, none⟩ u4).setCell ⟨q, 5, none⟩ u5).setCell ⟨q, 6, none⟩ u6).heap[q]? = some (.cells #[u0, u1, u2, u3, u4, u5, u6] e (0, 0)) := by
  have h1 := heap_set1 (heap_set1 (heap_set1 (heap_set1 (heap_set1 (heap_set1 (heap_set1 h 0 u0) 1 u1) 2 u2) 3 u3) 4 u4) 5 u5) 6 u6
  simp only [List.setIfInBounds_toArray, List.set_cons_zero, List.set_cons_succ] at h1
  exact h1
theorem Bx.of_heap {w : World} {q : Nat} {cs : Array Value} {e : TypeId} (h : w.heap[q]? = some (.cells cs e (0, 0))) : Bx w q cs.toList := by
  intro j v hv
  rw [Lib.cell_of_heap h]; simpa using hv

set_option maxHeartbeats 4000000 in
set_option maxRecDepth 100000 in
theorem messageSames_walk (x y : LMsg) (xp yp : MsgP) (copied : Bool) (W : World) (hx : LMsgAt W x xp) (hy : LMsgAt W y yp) (hok : x.Ok) (hok2 : y.Ok) :
    Calls Try.prog 5 #[x.val xp, y.val yp, .bool copied] W fun e w' => e = .returned (.bool true) ∧ Below W.heap.size W w' := by
  have HX := Lib.hid hx
  have HY := Lib.hid hy
  have HOK := Lib.hid hok
  have HOK2 := Lib.hid hok2
  clear hx hy hok hok2
  have S0 := Lib.hid (fun w => speaks05_any w)
  obtain ⟨w0, hw0⟩ : ∃ w0, w0 = (W.alloc (.cells (x.arr xp) 25)).alloc (.cells (y.arr yp) 25) := ⟨_, rfl⟩
  have F0 := Lib.hid (show Gr W w0 by rw [hw0]; exact ((Fr.refl _ _).alloc _).alloc _)
  have B0 := Lib.hid (show Bx w0 W.heap.size (x.cells xp) by rw [hw0]; exact (Bx.new W (x.arr xp) 25).keep ((Fr.refl (fun _ => False) _).alloc _) (fun h => h))
  have D0 := Lib.hid (show w0.heap[W.heap.size + 1]? = some (.cells (y.arr yp) 25 (0, 0)) by rw [hw0, heap_alloc_if, if_pos (by simp)])
  have HW0 := Lib.hid (show w0 = (W.alloc (.cells #[.int .i64 x.kind, .int .i64 x.node, .int .i64 x.walk, .bool x.high, .slice xp.a1 x.nodes.length xp.c1, .slice xp.a2 x.ids.length xp.c2, .slice xp.a3 x.recs.length xp.c3] 25)).alloc (.cells #[.int .i64 y.kind, .int .i64 y.node, .int .i64 y.walk, .bool y.high, .slice yp.a1 y.nodes.length yp.c1, .slice yp.a2 y.ids.length yp.c2, .slice yp.a3 y.recs.length yp.c3] 25) from hw0)
  have hs0 : W.heap.size + 2 ≤ w0.heap.size := by rw [hw0]; simp
  clear hw0
  go_enter Try.func5, Try.ntmps5
  go_wp2_with fail
  rw [← HW0.out]
  clear HW0
  refine (S0.out _).mono ?_
  rintro e w1 ⟨rfl, f1⟩
  have F1 := Lib.hid (Gr.trans F0.out f1)
  have B1 := Lib.hid (B0.out.keep f1 (fun h => h))
  have D1 := Lib.hid (show w1.heap[W.heap.size + 1]? = some (.cells (y.arr yp) 25 (0, 0)) by rw [f1.block _ (by omega) (fun h => h)]; exact D0.out)
  have hs1 := Nat.le_trans hs0 f1.size
  clear f1 B0 F0 D0 hs0
  cases copied
  case true =>
    have d1 := D1.out
    have t0 : w1.cell? ⟨W.heap.size + 1, 0, none⟩ = some (.int .i64 y.kind) := by rw [Lib.cell_of_heap d1]; rfl
    have t1 : w1.cell? ⟨W.heap.size + 1, 1, none⟩ = some (.int .i64 y.node) := by rw [Lib.cell_of_heap d1]; rfl
    have t2 : w1.cell? ⟨W.heap.size + 1, 2, none⟩ = some (.int .i64 y.walk) := by rw [Lib.cell_of_heap d1]; rfl
    have t3 : w1.cell? ⟨W.heap.size + 1, 3, none⟩ = some (.bool y.high) := by rw [Lib.cell_of_heap d1]; rfl
    have t4 : w1.cell? ⟨W.heap.size + 1, 4, none⟩ = some (.slice yp.a1 y.nodes.length yp.c1) := by rw [Lib.cell_of_heap d1]; rfl
    have t5 : w1.cell? ⟨W.heap.size + 1, 5, none⟩ = some (.slice yp.a2 y.ids.length yp.c2) := by rw [Lib.cell_of_heap d1]; rfl
    have t6 : w1.cell? ⟨W.heap.size + 1, 6, none⟩ = some (.slice yp.a3 y.recs.length yp.c3) := by rw [Lib.cell_of_heap d1]; rfl
    have z : ∀ j, w1.frozen? ⟨W.heap.size + 1, j, none⟩ = false := Lib.frozen_of_heap d1
    clear d1
    have y0 := B1.out 0 _ rfl
    have y1 := B1.out 1 _ rfl
    have y2 := B1.out 2 _ rfl
    have y3 := B1.out 3 _ rfl
    have y4 := B1.out 4 _ rfl
    have y5 := B1.out 5 _ rfl
    have y6 := B1.out 6 _ rfl
    go_upto_region 5 with fail
    generalize hw2 : World.setCell (World.setCell (World.setCell (World.setCell (World.setCell (World.setCell (World.setCell (w1) ⟨W.heap.size + 1, 0, none⟩ (.int .i64 x.kind)) ⟨W.heap.size + 1, 1, none⟩ (.int .i64 x.node)) ⟨W.heap.size + 1, 2, none⟩ (.int .i64 x.walk)) ⟨W.heap.size + 1, 3, none⟩ (.bool x.high)) ⟨W.heap.size + 1, 4, none⟩ (.slice xp.a1 x.nodes.length xp.c1)) ⟨W.heap.size + 1, 5, none⟩ (.slice xp.a2 x.ids.length xp.c2)) ⟨W.heap.size + 1, 6, none⟩ (.slice xp.a3 x.recs.length xp.c3) = w2
    have f2 : Fr (fun k => k = W.heap.size + 1) w1 w2 := by rw [← hw2]; exact fr_stores7 (Fr.refl (fun k => k = W.heap.size + 1) w1) rfl _ _ _ _ _ _ _
    have F2 := Lib.hid (show Gr W w2 from Fr.trans F1.out f2 (fun k hk => .inr (by omega)))
    have B2 := Lib.hid (B1.out.keep f2 (by omega))
    have C2 := Lib.hid (show Bx w2 (W.heap.size + 1) (x.cells xp) by rw [← hw2]; exact Bx.of_heap (heap_box D1.out _ _ _ _ _ _ _))
    clear hw2 f2 F1 B1 D1 t0 t1 t2 t3 t4 t5 t6 z y0 y1 y2 y3 y4 y5 y6
    have HB := Lib.hid (both_any x xp w2 (HX.out.keep F2.out) HOK.out)
    obtain ⟨m1, hm1⟩ : ∃ m, m = x.msg := ⟨_, rfl⟩
    obtain ⟨m2, hm2⟩ : ∃ m, m = x.msg := ⟨_, rfl⟩
    rw [← hm1] at HB
    have HF1 := Lib.hid (show m1.fits by rw [hm1]; exact LMsg.msg_fits HOK.out)
    have HF2 := Lib.hid (show m2.fits by rw [hm2]; exact LMsg.msg_fits HOK.out)
    have HM := Lib.hid (And.intro hm1 hm2)
    clear hm1 hm2
    have y0 := B2.out 0 _ rfl
    have y1 := B2.out 1 _ rfl
    have y2 := B2.out 2 _ rfl
    have y3 := B2.out 3 _ rfl
    have y4 := B2.out 4 _ rfl
    have y5 := B2.out 5 _ rfl
    have y6 := B2.out 6 _ rfl
    go_wp2_with fail
    refine HB.out.mono ?_
    rintro e w3 ⟨f3, p1, q1, rfl, hp1, hq1⟩
    obtain ⟨w4, hw4⟩ : ∃ w4, w4 = (w3.alloc (.cells (m1.arr p1) 30)).alloc (.cells (m1.arr q1) 34) := ⟨_, rfl⟩
    have f4 : Gr w3 w4 := by rw [hw4]; exact ((Fr.refl _ _).alloc _).alloc _
    have BA := Lib.hid (show Bx w4 w3.heap.size (m1.cells p1) by rw [hw4]; exact (Bx.new w3 (m1.arr p1) 30).keep ((Fr.refl (fun _ => False) _).alloc _) (fun h => h))
    have F4 := Lib.hid (Gr.trans (Gr.trans F2.out f3) f4)
    have HP1 := Lib.hid (hp1.keep f4)
    have C4 := Lib.hid ((C2.out.keep f3 (fun h => h)).keep f4 (fun h => h))
    have HW4 := Lib.hid (show w4 = (w3.alloc (.cells #[.int .i64 m1.kind, .int .i64 m1.node, .int .i64 m1.walk, .bool m1.high, .slice p1.a1 m1.nodes.length p1.c1, .slice p1.a2 m1.ids.length p1.c2, .slice p1.a3 m1.recs.length p1.c3] 30)).alloc (.cells #[.int .i64 m1.kind, .int .i64 m1.node, .int .i64 m1.walk, .bool m1.high, .slice q1.a1 m1.nodes.length q1.c1, .slice q1.a2 m1.ids.length q1.c2, .slice q1.a3 m1.recs.length q1.c3] 34) from hw4)
    clear f3 f4 hp1 hq1 hw4 HB F2 B2 C2 y0 y1 y2 y3 y4 y5 y6
    go_upto_region 6 with fail
    rw [← HW4.out]
    clear HW4
    have HB := Lib.hid (both_any x xp w4 (HX.out.keep F4.out) HOK.out)
    rw [← HM.out.2] at HB
    have y0 := C4.out 0 _ rfl
    have y1 := C4.out 1 _ rfl
    have y2 := C4.out 2 _ rfl
    have y3 := C4.out 3 _ rfl
    have y4 := C4.out 4 _ rfl
    have y5 := C4.out 5 _ rfl
    have y6 := C4.out 6 _ rfl
    go_wp2_with fail
    refine HB.out.mono ?_
    rintro e w5 ⟨f5, p2, q2, rfl, hp2, hq2⟩
    obtain ⟨w6, hw6⟩ : ∃ w6, w6 = (w5.alloc (.cells (m2.arr p2) 30)).alloc (.cells (m2.arr q2) 34) := ⟨_, rfl⟩
    have f6 : Gr w5 w6 := by rw [hw6]; exact ((Fr.refl _ _).alloc _).alloc _
    have BB := Lib.hid (show Bx w6 w5.heap.size (m2.cells p2) by rw [hw6]; exact (Bx.new w5 (m2.arr p2) 30).keep ((Fr.refl (fun _ => False) _).alloc _) (fun h => h))
    have F6 := Lib.hid (Gr.trans (Gr.trans F4.out f5) f6)
    have BA6 := Lib.hid ((BA.out.keep f5 (fun h => h)).keep f6 (fun h => h))
    have P1 := Lib.hid (fun w (f : Gr w6 w) => ((HP1.out.keep f5).keep f6).keep f)
    have P2 := Lib.hid (fun w (f : Gr w6 w) => (hp2.keep f6).keep f)
    have HW6 := Lib.hid (show w6 = (w5.alloc (.cells #[.int .i64 m2.kind, .int .i64 m2.node, .int .i64 m2.walk, .bool m2.high, .slice p2.a1 m2.nodes.length p2.c1, .slice p2.a2 m2.ids.length p2.c2, .slice p2.a3 m2.recs.length p2.c3] 30)).alloc (.cells #[.int .i64 m2.kind, .int .i64 m2.node, .int .i64 m2.walk, .bool m2.high, .slice q2.a1 m2.nodes.length q2.c1, .slice q2.a2 m2.ids.length q2.c2, .slice q2.a3 m2.recs.length q2.c3] 34) from hw6)
    clear f5 f6 hp2 hq2 hw6 HB F4 HP1 BA C4 y0 y1 y2 y3 y4 y5 y6
    go_upto_region 7 with fail
    rw [← HW6.out]
    clear HW6
    have E1 := Lib.hid (fun w (f : Gr w6 w) => encode_any m1 p1 w HF1.out (P1.out w f))
    have E2 := Lib.hid (fun w (f : Gr w6 w) => encode_any m2 p2 w HF2.out (P2.out w f))
    have SA := Lib.hid (fun w (f : Gr w6 w) => same_any m1 m1 p1 p1 w (P1.out w f) (P1.out w f))
    have SB := Lib.hid (fun w (f : Gr w6 w) => same_any m1 m2 p1 p2 w (P1.out w f) (P2.out w f))
    have hdd : decide (m1 = m1) = true := by simp
    rw [hdd] at SA
    clear hdd
    have hd2 : decide (m1 = m2) = true := by rw [HM.out.1, HM.out.2]; simp
    rw [hd2] at SB
    have HEQ := Lib.hid (show m1 = m2 by rw [HM.out.1, HM.out.2])
    clear hd2
    have y0 := BA6.out 0 _ rfl
    have y1 := BA6.out 1 _ rfl
    have y2 := BA6.out 2 _ rfl
    have y3 := BA6.out 3 _ rfl
    have y4 := BA6.out 4 _ rfl
    have y5 := BA6.out 5 _ rfl
    have y6 := BA6.out 6 _ rfl
    go_wp2_with fail
    refine (E1.out _ (Fr.refl _ _)).mono ?_
    rintro e w7 ⟨rfl, f7⟩
    have G7 := Lib.hid f7
    have BB7 := Lib.hid (BB.out.keep f7 (fun h => h))
    have BA7 := Lib.hid (BA6.out.keep f7 (fun h => h))
    clear f7 y0 y1 y2 y3 y4 y5 y6
    have y0 := BB7.out 0 _ rfl
    have y1 := BB7.out 1 _ rfl
    have y2 := BB7.out 2 _ rfl
    have y3 := BB7.out 3 _ rfl
    have y4 := BB7.out 4 _ rfl
    have y5 := BB7.out 5 _ rfl
    have y6 := BB7.out 6 _ rfl
    go_wp2_with fail
    refine (E2.out _ G7.out).mono ?_
    rintro e w8 ⟨rfl, f8⟩
    have G8 := Lib.hid (Gr.trans G7.out f8)
    have BB8 := Lib.hid (BB7.out.keep f8 (fun h => h))
    have BA8 := Lib.hid (BA7.out.keep f8 (fun h => h))
    clear f8 G7 BB7 BA7 y0 y1 y2 y3 y4 y5 y6
    have y0 := BA8.out 0 _ rfl
    have y1 := BA8.out 1 _ rfl
    have y2 := BA8.out 2 _ rfl
    have y3 := BA8.out 3 _ rfl
    have y4 := BA8.out 4 _ rfl
    have y5 := BA8.out 5 _ rfl
    have y6 := BA8.out 6 _ rfl
    go_wp2_with fail
    refine (SA.out _ G8.out).mono ?_
    rintro e w9 ⟨rfl, f9⟩
    have G9 := Lib.hid (Gr.trans G8.out f9)
    have BB9 := Lib.hid (BB8.out.keep f9 (fun h => h))
    have BA9 := Lib.hid (BA8.out.keep f9 (fun h => h))
    clear f9 G8 BB8 BA8 y0 y1 y2 y3 y4 y5 y6
    have y0 := BA9.out 0 _ rfl
    have y1 := BA9.out 1 _ rfl
    have y2 := BA9.out 2 _ rfl
    have y3 := BA9.out 3 _ rfl
    have y4 := BA9.out 4 _ rfl
    have y5 := BA9.out 5 _ rfl
    have y6 := BA9.out 6 _ rfl
    have x0 := BB9.out 0 _ rfl
    have x1 := BB9.out 1 _ rfl
    have x2 := BB9.out 2 _ rfl
    have x3 := BB9.out 3 _ rfl
    have x4 := BB9.out 4 _ rfl
    have x5 := BB9.out 5 _ rfl
    have x6 := BB9.out 6 _ rfl
    go_wp2_with fail
    refine (SB.out _ G9.out).mono ?_
    rintro e wA ⟨rfl, fA⟩
    have GA := Lib.hid (Gr.trans G9.out fA)
    have BBA := Lib.hid (BB9.out.keep fA (fun h => h))
    have BAA := Lib.hid (BA9.out.keep fA (fun h => h))
    clear fA G9 BB9 BA9 y0 y1 y2 y3 y4 y5 y6 x0 x1 x2 x3 x4 x5 x6
    have y0 := BAA.out 0 _ rfl
    have y1 := BAA.out 1 _ rfl
    have y2 := BAA.out 2 _ rfl
    have y3 := BAA.out 3 _ rfl
    have y4 := BAA.out 4 _ rfl
    have y5 := BAA.out 5 _ rfl
    have y6 := BAA.out 6 _ rfl
    have x0 := BBA.out 0 _ rfl
    have x1 := BBA.out 1 _ rfl
    have x2 := BBA.out 2 _ rfl
    have x3 := BBA.out 3 _ rfl
    have x4 := BBA.out 4 _ rfl
    have x5 := BBA.out 5 _ rfl
    have x6 := BBA.out 6 _ rfl
    by_cases c1 : m1.code = 0
    case neg =>
      go_wp2_with fail
      go_ret
      exact ⟨rfl, Fr.below (Below.refl _ _) (Gr.trans F6.out GA.out) (Nat.le_refl _) (fun k h => h.elim)⟩
    by_cases c2 : m2.code = 0
    case neg =>
      go_wp2_with fail
      go_ret
      exact ⟨rfl, Fr.below (Below.refl _ _) (Gr.trans F6.out GA.out) (Nat.le_refl _) (fun k h => h.elim)⟩
    have HI := Lib.hid (out_eq_iff c1 c2 HF1.out HF2.out)
    go_wp2_with fail
    refine (SB.out _ GA.out).mono ?_
    rintro e wB ⟨rfl, fB⟩
    have GB := Lib.hid (Gr.trans GA.out fB)
    clear fB y0 y1 y2 y3 y4 y5 y6 x0 x1 x2 x3 x4 x5 x6
    have ho : m1.out = m2.out := HI.out.2 HEQ.out
    go_wp2_with fail
    go_ret
    exact ⟨rfl, Fr.below (Below.refl _ _) (Gr.trans F6.out GB.out) (Nat.le_refl _) (fun k h => h.elim)⟩
  case false =>
    have F2 := F1
    have B2 := B1
    have C2 := Lib.hid (show Bx w1 (W.heap.size + 1) (y.cells yp) from Bx.of_heap D1.out)
    obtain ⟨w2, hw2⟩ : ∃ w2, w2 = w1 := ⟨_, rfl⟩
    subst hw2
    clear F1 B1 D1
    have HB := Lib.hid (both_any x xp w2 (HX.out.keep F2.out) HOK.out)
    obtain ⟨m1, hm1⟩ : ∃ m, m = x.msg := ⟨_, rfl⟩
    obtain ⟨m2, hm2⟩ : ∃ m, m = y.msg := ⟨_, rfl⟩
    rw [← hm1] at HB
    have HF1 := Lib.hid (show m1.fits by rw [hm1]; exact LMsg.msg_fits HOK.out)
    have HF2 := Lib.hid (show m2.fits by rw [hm2]; exact LMsg.msg_fits HOK2.out)
    have HM := Lib.hid (And.intro hm1 hm2)
    clear hm1 hm2
    have y0 := B2.out 0 _ rfl
    have y1 := B2.out 1 _ rfl
    have y2 := B2.out 2 _ rfl
    have y3 := B2.out 3 _ rfl
    have y4 := B2.out 4 _ rfl
    have y5 := B2.out 5 _ rfl
    have y6 := B2.out 6 _ rfl
    go_wp2_with fail
    refine HB.out.mono ?_
    rintro e w3 ⟨f3, p1, q1, rfl, hp1, hq1⟩
    obtain ⟨w4, hw4⟩ : ∃ w4, w4 = (w3.alloc (.cells (m1.arr p1) 30)).alloc (.cells (m1.arr q1) 34) := ⟨_, rfl⟩
    have f4 : Gr w3 w4 := by rw [hw4]; exact ((Fr.refl _ _).alloc _).alloc _
    have BA := Lib.hid (show Bx w4 w3.heap.size (m1.cells p1) by rw [hw4]; exact (Bx.new w3 (m1.arr p1) 30).keep ((Fr.refl (fun _ => False) _).alloc _) (fun h => h))
    have F4 := Lib.hid (Gr.trans (Gr.trans F2.out f3) f4)
    have HP1 := Lib.hid (hp1.keep f4)
    have C4 := Lib.hid ((C2.out.keep f3 (fun h => h)).keep f4 (fun h => h))
    have HW4 := Lib.hid (show w4 = (w3.alloc (.cells #[.int .i64 m1.kind, .int .i64 m1.node, .int .i64 m1.walk, .bool m1.high, .slice p1.a1 m1.nodes.length p1.c1, .slice p1.a2 m1.ids.length p1.c2, .slice p1.a3 m1.recs.length p1.c3] 30)).alloc (.cells #[.int .i64 m1.kind, .int .i64 m1.node, .int .i64 m1.walk, .bool m1.high, .slice q1.a1 m1.nodes.length q1.c1, .slice q1.a2 m1.ids.length q1.c2, .slice q1.a3 m1.recs.length q1.c3] 34) from hw4)
    clear f3 f4 hp1 hq1 hw4 HB F2 B2 C2 y0 y1 y2 y3 y4 y5 y6
    go_upto_region 6 with fail
    rw [← HW4.out]
    clear HW4
    have HB := Lib.hid (both_any y yp w4 (HY.out.keep F4.out) HOK2.out)
    rw [← HM.out.2] at HB
    have y0 := C4.out 0 _ rfl
    have y1 := C4.out 1 _ rfl
    have y2 := C4.out 2 _ rfl
    have y3 := C4.out 3 _ rfl
    have y4 := C4.out 4 _ rfl
    have y5 := C4.out 5 _ rfl
    have y6 := C4.out 6 _ rfl
    go_wp2_with fail
    refine HB.out.mono ?_
    rintro e w5 ⟨f5, p2, q2, rfl, hp2, hq2⟩
    obtain ⟨w6, hw6⟩ : ∃ w6, w6 = (w5.alloc (.cells (m2.arr p2) 30)).alloc (.cells (m2.arr q2) 34) := ⟨_, rfl⟩
    have f6 : Gr w5 w6 := by rw [hw6]; exact ((Fr.refl _ _).alloc _).alloc _
    have BB := Lib.hid (show Bx w6 w5.heap.size (m2.cells p2) by rw [hw6]; exact (Bx.new w5 (m2.arr p2) 30).keep ((Fr.refl (fun _ => False) _).alloc _) (fun h => h))
    have F6 := Lib.hid (Gr.trans (Gr.trans F4.out f5) f6)
    have BA6 := Lib.hid ((BA.out.keep f5 (fun h => h)).keep f6 (fun h => h))
    have P1 := Lib.hid (fun w (f : Gr w6 w) => ((HP1.out.keep f5).keep f6).keep f)
    have P2 := Lib.hid (fun w (f : Gr w6 w) => (hp2.keep f6).keep f)
    have HW6 := Lib.hid (show w6 = (w5.alloc (.cells #[.int .i64 m2.kind, .int .i64 m2.node, .int .i64 m2.walk, .bool m2.high, .slice p2.a1 m2.nodes.length p2.c1, .slice p2.a2 m2.ids.length p2.c2, .slice p2.a3 m2.recs.length p2.c3] 30)).alloc (.cells #[.int .i64 m2.kind, .int .i64 m2.node, .int .i64 m2.walk, .bool m2.high, .slice q2.a1 m2.nodes.length q2.c1, .slice q2.a2 m2.ids.length q2.c2, .slice q2.a3 m2.recs.length q2.c3] 34) from hw6)
    clear f5 f6 hp2 hq2 hw6 HB F4 HP1 BA C4 y0 y1 y2 y3 y4 y5 y6
    go_upto_region 7 with fail
    rw [← HW6.out]
    clear HW6
    have E1 := Lib.hid (fun w (f : Gr w6 w) => encode_any m1 p1 w HF1.out (P1.out w f))
    have E2 := Lib.hid (fun w (f : Gr w6 w) => encode_any m2 p2 w HF2.out (P2.out w f))
    have SA := Lib.hid (fun w (f : Gr w6 w) => same_any m1 m1 p1 p1 w (P1.out w f) (P1.out w f))
    have SB := Lib.hid (fun w (f : Gr w6 w) => same_any m1 m2 p1 p2 w (P1.out w f) (P2.out w f))
    have hdd : decide (m1 = m1) = true := by simp
    rw [hdd] at SA
    clear hdd
    obtain ⟨dd, hdd⟩ : ∃ dd, dd = decide (m1 = m2) := ⟨_, rfl⟩
    rw [← hdd] at SB
    have HDD := Lib.hid hdd
    clear hdd
    have y0 := BA6.out 0 _ rfl
    have y1 := BA6.out 1 _ rfl
    have y2 := BA6.out 2 _ rfl
    have y3 := BA6.out 3 _ rfl
    have y4 := BA6.out 4 _ rfl
    have y5 := BA6.out 5 _ rfl
    have y6 := BA6.out 6 _ rfl
    go_wp2_with fail
    refine (E1.out _ (Fr.refl _ _)).mono ?_
    rintro e w7 ⟨rfl, f7⟩
    have G7 := Lib.hid f7
    have BB7 := Lib.hid (BB.out.keep f7 (fun h => h))
    have BA7 := Lib.hid (BA6.out.keep f7 (fun h => h))
    clear f7 y0 y1 y2 y3 y4 y5 y6
    have y0 := BB7.out 0 _ rfl
    have y1 := BB7.out 1 _ rfl
    have y2 := BB7.out 2 _ rfl
    have y3 := BB7.out 3 _ rfl
    have y4 := BB7.out 4 _ rfl
    have y5 := BB7.out 5 _ rfl
    have y6 := BB7.out 6 _ rfl
    go_wp2_with fail
    refine (E2.out _ G7.out).mono ?_
    rintro e w8 ⟨rfl, f8⟩
    have G8 := Lib.hid (Gr.trans G7.out f8)
    have BB8 := Lib.hid (BB7.out.keep f8 (fun h => h))
    have BA8 := Lib.hid (BA7.out.keep f8 (fun h => h))
    clear f8 G7 BB7 BA7 y0 y1 y2 y3 y4 y5 y6
    have y0 := BA8.out 0 _ rfl
    have y1 := BA8.out 1 _ rfl
    have y2 := BA8.out 2 _ rfl
    have y3 := BA8.out 3 _ rfl
    have y4 := BA8.out 4 _ rfl
    have y5 := BA8.out 5 _ rfl
    have y6 := BA8.out 6 _ rfl
    go_wp2_with fail
    refine (SA.out _ G8.out).mono ?_
    rintro e w9 ⟨rfl, f9⟩
    have G9 := Lib.hid (Gr.trans G8.out f9)
    have BB9 := Lib.hid (BB8.out.keep f9 (fun h => h))
    have BA9 := Lib.hid (BA8.out.keep f9 (fun h => h))
    clear f9 G8 BB8 BA8 y0 y1 y2 y3 y4 y5 y6
    have y0 := BA9.out 0 _ rfl
    have y1 := BA9.out 1 _ rfl
    have y2 := BA9.out 2 _ rfl
    have y3 := BA9.out 3 _ rfl
    have y4 := BA9.out 4 _ rfl
    have y5 := BA9.out 5 _ rfl
    have y6 := BA9.out 6 _ rfl
    have x0 := BB9.out 0 _ rfl
    have x1 := BB9.out 1 _ rfl
    have x2 := BB9.out 2 _ rfl
    have x3 := BB9.out 3 _ rfl
    have x4 := BB9.out 4 _ rfl
    have x5 := BB9.out 5 _ rfl
    have x6 := BB9.out 6 _ rfl
    by_cases c1 : m1.code = 0
    case neg =>
      go_wp2_with fail
      go_ret
      exact ⟨rfl, Fr.below (Below.refl _ _) (Gr.trans F6.out G9.out) (Nat.le_refl _) (fun k h => h.elim)⟩
    by_cases c2 : m2.code = 0
    case neg =>
      go_wp2_with fail
      go_ret
      exact ⟨rfl, Fr.below (Below.refl _ _) (Gr.trans F6.out G9.out) (Nat.le_refl _) (fun k h => h.elim)⟩
    have HI := Lib.hid (out_eq_iff c1 c2 HF1.out HF2.out)
    go_wp2_with fail
    refine (SB.out _ G9.out).mono ?_
    rintro e wB ⟨rfl, fB⟩
    have GB := Lib.hid (Gr.trans G9.out fB)
    clear fB y0 y1 y2 y3 y4 y5 y6 x0 x1 x2 x3 x4 x5 x6
    by_cases he : m1 = m2
    · have ho : m1.out = m2.out := HI.out.2 he
      obtain rfl : dd = true := by rw [HDD.out]; simpa using he
      clear he
      go_wp2_with fail
      go_ret
      exact ⟨rfl, Fr.below (Below.refl _ _) (Gr.trans F6.out GB.out) (Nat.le_refl _) (fun k h => h.elim)⟩
    · have ho : (m1.out.toList == m2.out.toList) = false := by rw [str_beq]; exact decide_eq_false (fun h => he (HI.out.1 h))
      obtain rfl : dd = false := by rw [HDD.out]; simpa using he
      clear he
      go_wp2_with fail
      go_ret
      exact ⟨rfl, Fr.below (Below.refl _ _) (Gr.trans F6.out GB.out) (Nat.le_refl _) (fun k h => h.elim)⟩
end Go.Proofs.Ytkclgemkeifbaaa
