/-
  The walk of MessageCodes.
-/
import Derived.Test.YtkclgemkeifbaaaMsgBoth
import Derived.Test.YtkclgemkeifbaaaMsgSpeak
import Derived.Test.YtkclgemkeifbaaaMsgRefEnc
import Derived.Test.YtkclgemkeifbaaaMsgOpen
namespace Go.Proofs.Ytkclgemkeifbaaa
open Go.RowKit Go.Proofs

theorem Msg.out_enc {m : Msg} (h : m.code = 0) : m.out = ⟨m.enc.toArray⟩ := by unfold Msg.out; rw [if_pos h]
theorem Msg.out_size {m : Msg} : m.out.size ≤ 4096 := by
  unfold Msg.out
  split
  · rename_i h
    rw [mk_size]; exact (Msg.code_zero.1 h).2
  · show (0 : Nat) ≤ _; omega

set_option maxHeartbeats 4000000 in
set_option maxRecDepth 100000 in
theorem messageCodes_walk (x : LMsg) (xp : MsgP) (W : World) (hx : LMsgAt W x xp) (hok : x.Ok) :
    Calls Try.prog 3 #[x.val xp] W fun e w' => e = .returned (.bool true) ∧ Below W.heap.size W w' := by
  have HX := Lib.hid hx
  have HOK := Lib.hid hok
  clear hx hok
  obtain ⟨m, hm⟩ : ∃ m, m = x.msg := ⟨_, rfl⟩
  have HF := Lib.hid (show m.fits by rw [hm]; exact LMsg.msg_fits HOK.out)
  have HM := Lib.hid hm; clear hm
  have S0 := Lib.hid (fun w => speaks05_any w)
  obtain ⟨w0, hw0⟩ : ∃ w0, w0 = W.alloc (.cells (x.arr xp) 25) := ⟨_, rfl⟩
  have F0 := Lib.hid (show Gr W w0 by rw [hw0]; exact (Fr.refl _ _).alloc _)
  have B0 := Lib.hid (show Bx w0 W.heap.size (x.cells xp) by rw [hw0]; exact Bx.new W (x.arr xp) 25)
  have HW0 := Lib.hid (show w0 = W.alloc (.cells #[.int .i64 x.kind, .int .i64 x.node, .int .i64 x.walk, .bool x.high, .slice xp.a1 x.nodes.length xp.c1, .slice xp.a2 x.ids.length xp.c2, .slice xp.a3 x.recs.length xp.c3] 25) from hw0)
  clear hw0
  go_enter Try.func3, Try.ntmps3
  go_wp2_with fail
  rw [← HW0.out]
  clear HW0
  refine (S0.out _).mono ?_
  rintro e w1 ⟨rfl, f1⟩
  have F1 := Lib.hid (Gr.trans F0.out f1)
  have B1 := Lib.hid (B0.out.keep f1 (fun h => h))
  clear f1 B0 F0
  have HB := Lib.hid (both_any x xp w1 (HX.out.keep F1.out) HOK.out)
  rw [← HM.out] at HB
  have y0 := B1.out 0 _ rfl
  have y1 := B1.out 1 _ rfl
  have y2 := B1.out 2 _ rfl
  have y3 := B1.out 3 _ rfl
  have y4 := B1.out 4 _ rfl
  have y5 := B1.out 5 _ rfl
  have y6 := B1.out 6 _ rfl
  go_wp2_with fail
  refine HB.out.mono ?_
  rintro e w2 ⟨f2, p, q, rfl, hp, hq⟩
  have F2 := Lib.hid (Gr.trans F1.out f2)
  clear f2 F1 HB y0 y1 y2 y3 y4 y5 y6 B1
  obtain ⟨w3, hw3⟩ : ∃ w3, w3 = (w2.alloc (.cells (m.arr p) 30)).alloc (.cells (m.arr q) 34) := ⟨_, rfl⟩
  have f3 : Gr w2 w3 := by rw [hw3]; exact ((Fr.refl _ _).alloc _).alloc _
  have ba : Bx w3 w2.heap.size (m.cells p) := by rw [hw3]; exact (Bx.new w2 (m.arr p) 30).keep ((Fr.refl (fun _ => False) _).alloc _) (fun h => h)
  have bb : Bx w3 (w2.heap.size + 1) (m.cells q) := by
    have := Bx.new (w2.alloc (.cells (m.arr p) 30)) (m.arr q) 34
    rw [World.size_alloc] at this
    rw [hw3]; exact this
  have F3 := Lib.hid (Gr.trans F2.out f3)
  have HP := Lib.hid (hp.keep f3)
  have HQ := Lib.hid (hq.keep f3)
  have BA := Lib.hid ba
  have BB := Lib.hid bb
  have HW3 := Lib.hid (show w3 = (w2.alloc (.cells #[.int .i64 m.kind, .int .i64 m.node, .int .i64 m.walk, .bool m.high, .slice p.a1 m.nodes.length p.c1, .slice p.a2 m.ids.length p.c2, .slice p.a3 m.recs.length p.c3] 30)).alloc (.cells #[.int .i64 m.kind, .int .i64 m.node, .int .i64 m.walk, .bool m.high, .slice q.a1 m.nodes.length q.c1, .slice q.a2 m.ids.length q.c2, .slice q.a3 m.recs.length q.c3] 34) from hw3)
  clear hw3 f3 ba bb hp hq F2
  go_upto_region 4 with fail
  rw [← HW3.out]
  clear HW3
  have y0 := BA.out 0 _ rfl
  have y1 := BA.out 1 _ rfl
  have y2 := BA.out 2 _ rfl
  have y3 := BA.out 3 _ rfl
  have y4 := BA.out 4 _ rfl
  have y5 := BA.out 5 _ rfl
  have y6 := BA.out 6 _ rfl
  have HE := Lib.hid (encode_any m p w3 HF.out HP.out)
  go_wp2_with fail
  refine HE.out.mono ?_
  rintro e w4 ⟨rfl, f4⟩
  have F4 := Lib.hid (Gr.trans F3.out f4)
  have HP4 := Lib.hid (HP.out.keep f4)
  have HQ4 := Lib.hid (HQ.out.keep f4)
  have BA4 := Lib.hid (BA.out.keep f4 (fun h => h))
  have BB4 := Lib.hid (BB.out.keep f4 (fun h => h))
  clear f4 HE y0 y1 y2 y3 y4 y5 y6 HP HQ BA BB F3
  have y0 := BB4.out 0 _ rfl
  have y1 := BB4.out 1 _ rfl
  have y2 := BB4.out 2 _ rfl
  have y3 := BB4.out 3 _ rfl
  have y4 := BB4.out 4 _ rfl
  have y5 := BB4.out 5 _ rfl
  have y6 := BB4.out 6 _ rfl
  have HE := Lib.hid (refEncode_any m q w4 HF.out HQ4.out)
  go_wp2_with fail
  refine HE.out.mono ?_
  rintro e w5 ⟨rfl, f5⟩
  have F5 := Lib.hid (Gr.trans F4.out f5)
  have HP5 := Lib.hid (HP4.out.keep f5)
  have BA5 := Lib.hid (BA4.out.keep f5 (fun h => h))
  clear f5 HE y0 y1 y2 y3 y4 y5 y6 HP4 HQ4 BA4 BB4 F4
  by_cases hc : m.code = 0
  case neg =>
    go_wp2_with fail
    go_ret
    exact ⟨rfl, Fr.below (Below.refl _ _) F5.out (Nat.le_refl _) (fun k h => h.elim)⟩
  case pos =>
    obtain ⟨hmay, hlen⟩ := Msg.code_zero.1 hc
    have HD := Lib.hid (decode_any m.enc (by omega) w5)
    have HDE := Lib.hid (Msg.dec_enc hmay HF.out hlen)
    have hout := Msg.out_enc hc
    rw [hout, hc]
    clear hc hout hmay hlen
    go_wp2_with fail
    refine HD.out.mono ?_
    rintro e w6 ⟨f6, h6⟩
    rw [HDE.out] at h6
    obtain ⟨r, rfl, ho⟩ := h6
    have F6 := Lib.hid (Gr.trans F5.out f6)
    obtain ⟨w7, hw7⟩ : ∃ w7, w7 = w6.alloc (.cells (m.arr r) 30) := ⟨_, rfl⟩
    have f7 : Gr w6 w7 := by rw [hw7]; exact (Fr.refl _ _).alloc _
    have BA7 := Lib.hid ((BA5.out.keep f6 (fun h => h)).keep f7 (fun h => h))
    have BR7 := Lib.hid (show Bx w7 w6.heap.size (m.cells r) by rw [hw7]; exact Bx.new w6 (m.arr r) 30)
    have F7 := Lib.hid (Gr.trans F6.out f7)
    have HS := Lib.hid (same_any m m r p w7 (ho.at.keep f7) ((HP5.out.keep f6).keep f7))
    have HW7 := Lib.hid (show w7 = w6.alloc (.cells #[.int .i64 m.kind, .int .i64 m.node, .int .i64 m.walk, .bool m.high, .slice r.a1 m.nodes.length r.c1, .slice r.a2 m.ids.length r.c2, .slice r.a3 m.recs.length r.c3] 30) from hw7)
    have hdd : decide (m = m) = true := by simp
    rw [hdd] at HS
    clear f6 f7 hw7 ho F5 F6 HP5 BA5 HD HDE hdd
    go_upto_region 11 with fail
    rw [← HW7.out]
    clear HW7
    have y0 := BA7.out 0 _ rfl
    have y1 := BA7.out 1 _ rfl
    have y2 := BA7.out 2 _ rfl
    have y3 := BA7.out 3 _ rfl
    have y4 := BA7.out 4 _ rfl
    have y5 := BA7.out 5 _ rfl
    have y6 := BA7.out 6 _ rfl
    have x0 := BR7.out 0 _ rfl
    have x1 := BR7.out 1 _ rfl
    have x2 := BR7.out 2 _ rfl
    have x3 := BR7.out 3 _ rfl
    have x4 := BR7.out 4 _ rfl
    have x5 := BR7.out 5 _ rfl
    have x6 := BR7.out 6 _ rfl
    go_wp2_with fail
    refine HS.out.mono ?_
    rintro e w8 ⟨rfl, f8⟩
    have F8 := Lib.hid (Gr.trans F7.out f8)
    clear f8
    go_wp2_with fail
    go_ret
    exact ⟨rfl, Fr.below (Below.refl _ _) F8.out (Nat.le_refl _) (fun k h => h.elim)⟩
end Go.Proofs.Ytkclgemkeifbaaa
