/-
  The walk of StreamBad.
-/
import Derived.Test.YtkclgemkeifbaaaStrSpeak
namespace Go.Proofs.Ytkclgemkeifbaaa
open Go.RowKit Go.Proofs

/-- bytes that are no frame, and what is wrong -/
def badOf (odd : Bool) : List UInt8 × Int := if odd then ([0, 1, 0], 2) else ([255, 255], 3)
theorem next_badOf (odd : Bool) (l : List UInt8) : nextS ((badOf odd).1 ++ l) = (none, [], (badOf odd).2) := by
  cases odd <;> rfl
theorem feed_badOf (m : Msg) (hm : m.may = true) (hf : m.fits) (h : m.enc.length ≤ 4096) (odd : Bool) (l : List UInt8) : feed (m.frB ++ ((badOf odd).1 ++ l)) = ([m], [], (badOf odd).2) := by
  rw [feed_some (nextS_frame hm hf h _), feed_none (next_badOf odd l)]
theorem zero_code : Msg.zero.code = 1 := by decide
theorem zero_frame : Msg.zero.frame = ⟨#[]⟩ := by unfold Msg.frame; rw [if_neg (by rw [zero_code]; decide)]
theorem mk_app (s t : List UInt8) : (⟨s.toArray⟩ : ByteArray) ++ ⟨t.toArray⟩ = ⟨(s ++ t).toArray⟩ := by apply ByteArray.ext; simp

set_option maxHeartbeats 4000000 in
set_option maxRecDepth 100000 in
theorem streamBad_walk (x : SMsg) (how : Int) (W : World) (hx : x.fits) :
    Calls Try.prog 6 #[x.val, .int .u8 how] W fun e w' => e = .returned (.bool true) ∧ Below W.heap.size W w' := by
  obtain ⟨m, hm⟩ : ∃ m, m = x.told := ⟨_, rfl⟩
  have hmay := told_may x
  have hfit := told_fits x
  have hcode := told_code x
  have hlen := told_enc x
  have HTO := Lib.hid (fun w => told_any x w hx)
  rw [← hm] at hmay hfit hcode hlen HTO
  have hfr : m.frame = ⟨m.frB.toArray⟩ := by unfold Msg.frame; rw [if_pos hcode]
  have HFR : ∀ (p : MsgP) (w : World), MsgAt w m p → Calls Try.prog 22 #[m.val p] w fun e w' => e = .returned (.tuple #[.string ⟨m.frB.toArray⟩, .int .i64 0]) ∧ Gr w w' := fun p w h => by
    have := frame_any m p w hfit h; rwa [hcode, hfr] at this
  have HF := Lib.hid HFR
  have HFD : ∀ odd, feed ([] ++ (m.frB ++ ((badOf odd).1 ++ m.frB))) = ([m], [], (badOf odd).2) := fun odd => feed_badOf m hmay hfit (by omega) odd m.frB
  have HD := Lib.hid HFD
  have hfl := frB_length m
  have S0 := Lib.hid (fun w => speaks06_any w)
  clear hmay hfit hcode HFR hfr HFD hm hx
  generalize m.frB = fb at *
  obtain ⟨odd, hodd⟩ : ∃ odd : Bool, odd = (bits .and .u8 how 1 == 1) := ⟨_, rfl⟩
  have HODD := Lib.hid hodd
  obtain ⟨w0, hw0⟩ : ∃ w0, w0 = W.alloc (.cells #[.int .i64 x.kind, .int .i64 x.node, .string x.key] 51) := ⟨_, rfl⟩
  have F0 := Lib.hid (show Gr W w0 by rw [hw0]; exact (Fr.refl _ _).alloc _)
  have B0 := Lib.hid (show Bx w0 W.heap.size [.int .i64 x.kind, .int .i64 x.node, .string x.key] by rw [hw0]; exact Bx.new W #[.int .i64 x.kind, .int .i64 x.node, .string x.key] 51)
  have HW0 := Lib.hid hw0; clear hw0 hodd
  go_enter Try.func6, Try.ntmps6
  go_wp2_with fail
  rw [← HW0.out]
  refine (S0.out _).mono ?_
  rintro e w1 ⟨rfl, f1⟩
  have F1 := Lib.hid (Gr.trans F0.out f1)
  have B1 := Lib.hid (B0.out.keep f1 (fun h => h))
  have y0 := B1.out 0 _ rfl
  have y1 := B1.out 1 _ rfl
  have y2 := B1.out 2 _ rfl
  clear f1 B0 F0 HW0 S0
  go_wp2_with fail
  refine (HTO.out w1).mono ?_
  rintro e w2 ⟨f2, p, rfl, ho⟩
  have F2 := Lib.hid (Gr.trans F1.out f2)
  have C2 := Lib.hid (HF.out p w2 ho.at)
  clear f2 ho F1 B1 y0 y1 y2 HTO
  go_wp2_with fail
  refine C2.out.mono ?_
  rintro e w3 ⟨rfl, f3⟩
  have F3 := Lib.hid (Gr.trans F2.out f3)
  clear f3 F2 C2
  cases odd with
  | true =>
    have hb : (bits .and .u8 how 1 == 1) = true := HODD.out.symm
    have e1 : (⟨fb.toArray⟩ : ByteArray) ++ ⟨#[0, 1, 0]⟩ = ⟨(fb ++ [0, 1, 0]).toArray⟩ := mk_app fb [0, 1, 0]
    have e2 : (⟨(fb ++ [0, 1, 0]).toArray⟩ : ByteArray) ++ ⟨fb.toArray⟩ = ⟨(fb ++ ([0, 1, 0] ++ fb)).toArray⟩ := by rw [mk_app, List.append_assoc]
    obtain ⟨w4, hw4⟩ : ∃ w4, w4 = w3.alloc (.cells #[.string ⟨#[]⟩, .int .i64 0] 54) := ⟨_, rfl⟩
    have S4 : Hid (SplAt w4 w3.heap.size [] 0) := Lib.hid (by unfold SplAt; rw [hw4, heap_alloc_if, if_pos rfl])
    have F4 : Hid (Gr W w4) := Lib.hid (by rw [hw4]; exact F3.out.alloc _)
    have HW4 := Lib.hid hw4
    have sz := F3.out.size
    have C4 := Lib.hid (feed_any S4.out (t := fb ++ ([0, 1, 0] ++ fb)) (by simp; omega))
    clear hw4 F3
    go_wp2_with fail
    rw [← HW4.out]
    clear HW4 e1 e2
    refine C4.out.mono ?_
    rintro e w5 h5
    obtain ⟨f5, s5, L, a, cap, hL, rfl, -⟩ := feed_ends h5
    have hfd := HD.out true
    rw [show (badOf true).1 = [0, 1, 0] from rfl, show (badOf true).2 = 2 from rfl] at hfd
    rw [hfd] at s5 hL
    obtain ⟨p, rfl⟩ := one_of hL
    have F5 : Hid (Gr W w5) := Lib.hid (Fr.trans F4.out f5 (fun k h => .inr (by omega)))
    have S5 := Lib.hid s5
    have C5 := Lib.hid (feed_stopped s5 (show (2 : Int) ≠ 0 by decide) ⟨fb.toArray⟩)
    clear f5 s5 hL h5 C4 F4 S4 hfd hb
    go_wp2_with fail
    refine C5.out.mono ?_
    rintro e w6 ⟨rfl, rfl⟩
    have C6 := frame_any Msg.zero MsgP.zero w5 (by unfold Msg.fits; simp) ⟨SlA.nil _, SlA.nil _, SlA.nil _⟩
    rw [zero_code, zero_frame] at C6
    have D6 := Lib.hid C6
    clear C5 C6
    go_wp2_with fail
    refine D6.out.mono ?_
    rintro e w7 ⟨rfl, f7⟩
    have F7 := Lib.hid (Gr.trans F5.out f7)
    have S7 := Lib.hid (S5.out.keep f7 (fun h => h))
    clear f7 D6 F5 S5
    have hbad := Lib.hid (splBad_any S7.out)
    have hleft := Lib.hid (splLeft_any S7.out)
    have hn1 := Lib.hid (fun w => feed_nil ⟨fb.toArray⟩ w)
    have hn2 := Lib.hid (fun w => splBad_nil w)
    have hn3 := Lib.hid (fun w => splLeft_nil w)
    go_wp2_with fail
    refine hbad.out.mono ?_
    rintro e w8 ⟨rfl, rfl⟩
    go_wp2_with fail
    refine hleft.out.mono ?_
    rintro e w8 ⟨rfl, rfl⟩
    go_wp2_with fail
    refine (hn1.out _).mono ?_
    rintro e w8 ⟨rfl, rfl⟩
    go_wp2_with fail
    refine (hn2.out _).mono ?_
    rintro e w8 ⟨rfl, rfl⟩
    go_wp2_with fail
    refine (hn3.out _).mono ?_
    rintro e w8 ⟨rfl, rfl⟩
    go_wp2_with fail
    go_ret
    exact ⟨rfl, Fr.below (Below.refl _ _) F7.out (Nat.le_refl _) (fun k h => h.elim)⟩
  | false =>
    have hb : (bits .and .u8 how 1 == 1) = false := HODD.out.symm
    have e1 : (⟨fb.toArray⟩ : ByteArray) ++ ⟨#[255, 255]⟩ = ⟨(fb ++ [255, 255]).toArray⟩ := mk_app fb [255, 255]
    have e2 : (⟨(fb ++ [255, 255]).toArray⟩ : ByteArray) ++ ⟨fb.toArray⟩ = ⟨(fb ++ ([255, 255] ++ fb)).toArray⟩ := by rw [mk_app, List.append_assoc]
    obtain ⟨w4, hw4⟩ : ∃ w4, w4 = w3.alloc (.cells #[.string ⟨#[]⟩, .int .i64 0] 54) := ⟨_, rfl⟩
    have S4 : Hid (SplAt w4 w3.heap.size [] 0) := Lib.hid (by unfold SplAt; rw [hw4, heap_alloc_if, if_pos rfl])
    have F4 : Hid (Gr W w4) := Lib.hid (by rw [hw4]; exact F3.out.alloc _)
    have HW4 := Lib.hid hw4
    have sz := F3.out.size
    have C4 := Lib.hid (feed_any S4.out (t := fb ++ ([255, 255] ++ fb)) (by simp; omega))
    clear hw4 F3
    go_wp2_with fail
    rw [← HW4.out]
    clear HW4 e1 e2
    refine C4.out.mono ?_
    rintro e w5 h5
    obtain ⟨f5, s5, L, a, cap, hL, rfl, -⟩ := feed_ends h5
    have hfd := HD.out false
    rw [show (badOf false).1 = [255, 255] from rfl, show (badOf false).2 = 3 from rfl] at hfd
    rw [hfd] at s5 hL
    obtain ⟨p, rfl⟩ := one_of hL
    have F5 : Hid (Gr W w5) := Lib.hid (Fr.trans F4.out f5 (fun k h => .inr (by omega)))
    have S5 := Lib.hid s5
    have C5 := Lib.hid (feed_stopped s5 (show (3 : Int) ≠ 0 by decide) ⟨fb.toArray⟩)
    clear f5 s5 hL h5 C4 F4 S4 hfd hb
    go_wp2_with fail
    refine C5.out.mono ?_
    rintro e w6 ⟨rfl, rfl⟩
    have C6 := frame_any Msg.zero MsgP.zero w5 (by unfold Msg.fits; simp) ⟨SlA.nil _, SlA.nil _, SlA.nil _⟩
    rw [zero_code, zero_frame] at C6
    have D6 := Lib.hid C6
    clear C5 C6
    go_wp2_with fail
    refine D6.out.mono ?_
    rintro e w7 ⟨rfl, f7⟩
    have F7 := Lib.hid (Gr.trans F5.out f7)
    have S7 := Lib.hid (S5.out.keep f7 (fun h => h))
    clear f7 D6 F5 S5
    have hbad := Lib.hid (splBad_any S7.out)
    have hleft := Lib.hid (splLeft_any S7.out)
    have hn1 := Lib.hid (fun w => feed_nil ⟨fb.toArray⟩ w)
    have hn2 := Lib.hid (fun w => splBad_nil w)
    have hn3 := Lib.hid (fun w => splLeft_nil w)
    go_wp2_with fail
    refine hbad.out.mono ?_
    rintro e w8 ⟨rfl, rfl⟩
    go_wp2_with fail
    refine hleft.out.mono ?_
    rintro e w8 ⟨rfl, rfl⟩
    go_wp2_with fail
    refine (hn1.out _).mono ?_
    rintro e w8 ⟨rfl, rfl⟩
    go_wp2_with fail
    refine (hn2.out _).mono ?_
    rintro e w8 ⟨rfl, rfl⟩
    go_wp2_with fail
    refine (hn3.out _).mono ?_
    rintro e w8 ⟨rfl, rfl⟩
    go_wp2_with fail
    go_ret
    exact ⟨rfl, Fr.below (Below.refl _ _) F7.out (Nat.le_refl _) (fun k h => h.elim)⟩
end Go.Proofs.Ytkclgemkeifbaaa
