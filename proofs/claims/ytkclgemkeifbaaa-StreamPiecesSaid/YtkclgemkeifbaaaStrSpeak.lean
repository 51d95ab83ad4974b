/-
  Package bellhoplaw06: speaks.
-/
import Derived.Test.YtkclgemkeifbaaaStrTold
namespace Go.Proofs.Ytkclgemkeifbaaa
open Go.RowKit Go.Proofs

theorem feed_ends {W w' : World} {q : Nat} {r : List Msg × List UInt8 × Int} {e : Ending} (h : FeedPost W q r e w') :
    Fr (· = q) W w' ∧ SplAt w' q r.2.1 r.2.2 ∧ ∃ (L : List (Msg × MsgP)) (a : Option Addr) (cap : Nat), L.map Prod.fst = r.1 ∧ e = .returned (.slice a L.length cap) ∧ MsgsOwn W.heap.size w' L (.slice a L.length cap) := by
  obtain ⟨h1, h2, L, v, h3, rfl, h4⟩ := h
  obtain ⟨a, cap, rfl, _⟩ := SlA.of_own h4.row
  exact ⟨h1, h2, L, a, cap, h3, rfl, h4⟩
theorem MsgsOwn.get {B : Nat} {w : World} {L : List (Msg × MsgP)} {a : Option Addr} {cap : Nat} (h : MsgsOwn B w L (.slice a L.length cap)) (i : Nat) (hi : i < L.length) :
    ∃ b o, a = some ⟨b, o, none⟩ ∧ ∀ j v, (mpCells L[i])[j]? = some v → w.cell? ⟨b, o + i * 7 + j, none⟩ = some v := by
  obtain ⟨a', cap', e, hs, _⟩ := SlA.of_own h.row
  cases e
  exact hs.elem (f := mpCells) (n := 7) (fun _ => rfl) (by decide) i hi
theorem one_of {L : List (Msg × MsgP)} {m : Msg} (h : L.map Prod.fst = [m]) : ∃ p, L = [(m, p)] := by
  rcases L with _ | ⟨⟨m', p⟩, _ | ⟨y, l⟩⟩
  · cases h
  · simp only [List.map_cons, List.map_nil, List.cons.injEq, and_true] at h
    exact ⟨p, by rw [h]⟩
  · simp at h
abbrev bye3 : Msg := ⟨6, 3, 0, false, [], [], []⟩
theorem bye3_code : bye3.code = 0 := by decide
theorem bye3_frame : bye3.frame = ⟨#[0, 8, 6, 0, 3, 0, 0, 0, 0, 0]⟩ := by unfold Msg.frame; rw [if_pos bye3_code]; rfl
theorem feed_half : feed [0, 8, 6, 0, 3] = ([], [0, 8, 6, 0, 3], 0) := by rfl
theorem feed_whole : feed ([0, 8, 6, 0, 3] ++ [0, 0, 0, 0, 0]) = ([bye3], [], 0) := by rfl

set_option maxHeartbeats 4000000 in
set_option maxRecDepth 100000 in
theorem speaks06_any (W : World) : Calls Try.prog 21 #[] W fun e w' => e = .returned (.bool true) ∧ Gr W w' := by
  have C1 := frame_any bye3 MsgP.zero W (by unfold Msg.fits; simp) ⟨SlA.nil W, SlA.nil W, SlA.nil W⟩
  rw [bye3_code, bye3_frame] at C1
  have D1 := Lib.hid C1
  clear C1
  have hx1 : (ByteArray.mk #[0, 8, 6, 0, 3, 0, 0, 0, 0, 0]).extract 0 5 = ⟨[0, 8, 6, 0, 3].toArray⟩ := by rfl
  have hx2 : (ByteArray.mk #[0, 8, 6, 0, 3, 0, 0, 0, 0, 0]).extract 5 10 = ⟨[0, 0, 0, 0, 0].toArray⟩ := by rfl
  have hsz : (ByteArray.mk #[0, 8, 6, 0, 3, 0, 0, 0, 0, 0]).size = 10 := by rfl
  go_enter Try.func21, Try.ntmps21
  go_wp2_with fail
  refine D1.out.mono ?_
  rintro e w1 ⟨rfl, f1⟩
  obtain ⟨w2, hw2⟩ : ∃ w2, w2 = w1.alloc (.cells #[.string ⟨#[]⟩, .int .i64 0] 54) := ⟨_, rfl⟩
  have S2 : Hid (SplAt w2 w1.heap.size [] 0) := Lib.hid (by unfold SplAt; rw [hw2, heap_alloc_if, if_pos rfl])
  have F2 : Hid (Gr W w2) := Lib.hid (by rw [hw2]; exact f1.alloc _)
  have HW2 := Lib.hid hw2
  have sz := f1.size
  clear f1 D1 hw2
  go_wp2_with fail
  rw [← HW2.out]
  clear HW2
  have C2 := Lib.hid (feed_any S2.out (t := [0, 8, 6, 0, 3]) (by decide))
  refine C2.out.mono ?_
  rintro e w3 h3
  obtain ⟨f3, s3, L, a, cap, hL, rfl, -⟩ := feed_ends h3
  rw [List.nil_append, feed_half] at s3 hL
  obtain rfl : L = [] := List.map_eq_nil_iff.1 hL
  have F3 : Hid (Gr W w3) := Lib.hid (Fr.trans F2.out f3 (fun k h => .inr (by omega)))
  have C3 := Lib.hid (feed_any s3 (t := [0, 0, 0, 0, 0]) (by decide))
  clear f3 s3 hL h3 C2 F2 S2
  go_wp2_with fail
  refine C3.out.mono ?_
  rintro e w4 h4
  obtain ⟨f4, s4, L, b, cap', hL, rfl, hM⟩ := feed_ends h4
  rw [feed_whole] at s4 hL
  obtain ⟨p, rfl⟩ := one_of hL
  obtain ⟨bb, o, rfl, hc⟩ := hM.get 0 (Nat.zero_lt_one)
  have F4 : Hid (Gr W w4) := Lib.hid (Fr.trans F3.out f4 (fun k h => .inr (by omega)))
  have S4 := Lib.hid s4
  have c1 : w4.cell? ⟨bb, o + 1, none⟩ = some (.int .i64 3) := by have := hc 1 _ rfl; simpa using this
  clear f4 s4 hL h4 C3 F3 hM hc
  have hb := Lib.hid (splBad_any S4.out)
  go_wp2_with fail
  refine hb.out.mono ?_
  rintro e w5 ⟨rfl, rfl⟩
  have hl := Lib.hid (splLeft_any S4.out)
  go_wp2_with fail
  refine hl.out.mono ?_
  rintro e w6 ⟨rfl, rfl⟩
  go_wp2_with fail
  go_ret
  exact ⟨rfl, F4.out⟩
end Go.Proofs.Ytkclgemkeifbaaa
