/-
  Package bellhoplaw05: speaks.
-/
import Derived.Test.YtkclgemkeifbaaaMsgSame
import Derived.Deep.CutBlock
import Derived.Deep.CutRange
namespace Go.Proofs.Ytkclgemkeifbaaa
open Go.RowKit Go.Proofs

abbrev bye : Msg := ⟨6, 0, 0, false, [], [], []⟩
abbrev gos : Msg := ⟨9, 2, 0, true, [], [], [⟨⟨#[107]⟩, 5, 7, 1, false, ⟨#[100]⟩⟩]⟩
theorem bye_code : bye.code = 0 := by decide
theorem bye_out : bye.out = ⟨#[6, 0, 0, 0, 0, 0, 0, 0]⟩ := by unfold Msg.out; rw [if_pos bye_code]; rfl
theorem gos_dec : Msg.dec [9, 0, 2, 0, 1, 0, 0, 1, 1, 107, 0, 0, 0, 0, 0, 0, 0, 5, 0, 7, 0, 1, 0, 1, 100] = .ok gos [] := by rfl

set_option maxHeartbeats 4000000 in
set_option maxRecDepth 100000 in
theorem speaks05_any (W : World) : Calls Try.prog 15 #[] W fun e w' => e = .returned (.bool true) ∧ Gr W w' := by
  have C1 := encode_any bye MsgP.zero W (by unfold Msg.fits; simp) ⟨SlA.nil W, SlA.nil W, SlA.nil W⟩
  rw [bye_code, bye_out] at C1
  have C1 := Lib.hid C1
  go_enter Try.func15, Try.ntmps15
  go_wp2_with fail
  refine C1.out.mono ?_
  rintro e w1 ⟨rfl, f1⟩
  have F1 := Lib.hid f1; clear f1 C1
  have C2 := Lib.hid (decode_any [9, 0, 2, 0, 1, 0, 0, 1, 1, 107, 0, 0, 0, 0, 0, 0, 0, 5, 0, 7, 0, 1, 0, 1, 100] (by decide) w1)
  go_wp2_with fail
  refine C2.out.mono ?_
  rintro e w2 ⟨f2, h2⟩
  rw [gos_dec] at h2
  obtain ⟨p, rfl, ho⟩ := h2
  obtain ⟨b, o, e1, c0, c1, c2, c3, c4, c5⟩ := (ho.at.old (S := fun _ => False) ((Fr.refl (fun _ => False) w2).alloc (.cells (gos.arr p) 30)) (fun _ h => h.elim)).rcd 0 (by decide)
  obtain ⟨pa1, pc1, pa2, pc2, pa3, pc3⟩ := p
  simp only at e1
  subst e1
  have F2 := Lib.hid (Gr.trans F1.out f2); clear f2 F1 C2 ho
  have k1 : (w2.alloc (.cells (gos.arr ⟨pa1, pc1, pa2, pc2, some ⟨b, o, none⟩, pc3⟩) 30)).cell? ⟨b, o + 1, none⟩ = some (.int .u64 5) := by simpa using c1
  have k2 : (w2.alloc (.cells (gos.arr ⟨pa1, pc1, pa2, pc2, some ⟨b, o, none⟩, pc3⟩) 30)).cell? ⟨b, o + 2, none⟩ = some (.int .i64 7) := by simpa using c2
  have k5 : (w2.alloc (.cells (gos.arr ⟨pa1, pc1, pa2, pc2, some ⟨b, o, none⟩, pc3⟩) 30)).cell? ⟨b, o + 5, none⟩ = some (.string ⟨#[100]⟩) := by simpa using c5
  obtain ⟨w3, hw3⟩ : ∃ w3, w3 = w2.alloc (.cells (gos.arr ⟨pa1, pc1, pa2, pc2, some ⟨b, o, none⟩, pc3⟩) 30) := ⟨_, rfl⟩
  have bx : Bx w3 w2.heap.size (gos.cells ⟨pa1, pc1, pa2, pc2, some ⟨b, o, none⟩, pc3⟩) := by rw [hw3]; exact Bx.new w2 (gos.arr ⟨pa1, pc1, pa2, pc2, some ⟨b, o, none⟩, pc3⟩) 30
  have F3 : Hid (Gr W w3) := Lib.hid (by rw [hw3]; exact F2.out.alloc _)
  rw [← hw3] at k1 k2 k5
  have HW3 := Lib.hid hw3
  clear hw3 c0 c1 c2 c3 c4 c5
  have y0 : w3.cell? ⟨w2.heap.size, 0, none⟩ = some (.int .i64 9) := bx 0 _ rfl
  have y1 : w3.cell? ⟨w2.heap.size, 1, none⟩ = some (.int .i64 2) := bx 1 _ rfl
  have y3 : w3.cell? ⟨w2.heap.size, 3, none⟩ = some (.bool true) := bx 3 _ rfl
  have y6 : w3.cell? ⟨w2.heap.size, 6, none⟩ = some (.slice (some ⟨b, o, none⟩) 1 pc3) := bx 6 _ rfl
  clear bx
  go_upto_region 3 with fail
  have hw3 : w3 = w2.alloc (.cells #[.int .i64 9, .int .i64 2, .int .i64 0, .bool true, .slice pa1 0 pc1, .slice pa2 0 pc2, .slice (some ⟨b, o, none⟩) 1 pc3] 30) := HW3.out
  rw [← hw3]
  clear hw3 HW3
  go_wp2_with fail
  go_ret
  exact ⟨rfl, F3.out⟩
end Go.Proofs.Ytkclgemkeifbaaa
