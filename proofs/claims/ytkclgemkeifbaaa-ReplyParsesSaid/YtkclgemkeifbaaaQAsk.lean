/-
  Package query: Ask.
-/
import Derived.Test.YtkclgemkeifbaaaQry
import Derived.Test.YtkclgemkeifbaaaMsgWrite
namespace Go.Proofs.Ytkclgemkeifbaaa
open Go.RowKit Go.Proofs

def hdAsk (id : Int) : Hd := { hdZero with id := id, des := true, c0 := 1 }
theorem hdAsk_fits {id : Int} (h : 0 ≤ id ∧ id ≤ 65535) : (hdAsk id).Fits := by
  constructor <;> simp only [hdAsk, hdZero] <;> omega
def hdAskB (id : Int) : List UInt8 := two id ++ [1, 0, 0, 1, 0, 0, 0, 0, 0, 0]
theorem hdAsk_out (id : Int) : hdOut (hdAsk id) = .ok (hdAskB id) := by
  unfold hdOut
  rw [if_neg (by simp [Hd.bad, hdAsk, hdZero])]
  congr 1
  simp [Hd.bytes, Hd.part, Hd.cs, Hd.flags, Hd.fl, hdAsk, hdZero, hdAskB, bitI, two, bigEnd]
/-- a question's bytes -/
def askB (id : Int) (l : List Lbl) (typ : Int) : List UInt8 := hdAskB id ++ (bytesL l ++ [0]) ++ (numB 2 typ ++ (numB 2 1 ++ []))

set_option maxHeartbeats 1000000 in
set_option maxRecDepth 100000 in
theorem ask1_any {B g1 g2 g3 : Nat} {S : Nat → Prop} {w : World} {b : Nat} {enc h s : List UInt8} {typ : Int} (hw : WrE B S w b ((h ++ s) ++ (numB 2 typ ++ (numB 2 1 ++ []))) enc) (hl : enc.length ≤ 1000000)
    (y1 : w.cell? ⟨g1, 0, none⟩ = some (.string ⟨h.toArray⟩)) (y2 : w.cell? ⟨g2, 0, none⟩ = some (.string ⟨s.toArray⟩)) (y3 : w.cell? ⟨g3, 0, none⟩ = some (.int .u16 typ)) (hS : ¬ S g1 ∧ ¬ S g2 ∧ ¬ S g3) (ht : 0 ≤ typ ∧ typ ≤ 65535) (hhs : h.length + s.length ≤ 1000000) :
    Calls Try.prog 69 #[.pointer (some ⟨b, 0, none⟩), .pointer (some ⟨g1, 0, none⟩), .pointer (some ⟨g2, 0, none⟩), .pointer (some ⟨g3, 0, none⟩)] w fun e w' => e = .returned (.tuple #[]) ∧ WrE B S w' b [] enc ∧ Fr S w w' := by
  have H := Lib.hid hw; clear hw
  have ea : (⟨h.toArray⟩ : ByteArray) ++ ⟨s.toArray⟩ = ⟨(h ++ s).toArray⟩ := by apply ByteArray.ext; simp
  have z1 := mk_size h
  have z2 := mk_size s
  have C1 : Hid (Calls Try.prog 60 #[.pointer (some ⟨b, 0, none⟩), .string ⟨(h ++ s).toArray⟩] w fun e w' => e = .returned (.tuple #[]) ∧ WrE B S w' b (numB 2 typ ++ (numB 2 1 ++ [])) enc ∧ Fr S w w') := Lib.hid (WrE.raw (s := ⟨(h ++ s).toArray⟩) (by simpa using H.out) hl)
  clear H
  go_enter Try.func69, Try.ntmps69
  go_wp2_with fail
  refine C1.out.mono ?_
  rintro e w1 ⟨rfl, h1, f1⟩
  have H1 := Lib.hid h1
  have F1 := Lib.hid f1
  have x3 := f1.cell y3 hS.2.2
  clear h1 f1 C1 y1 y2 y3 ea z1 z2
  go_wp2_with fail
  refine (WrE.num H1.out hl (by rfl) (by decide) (by decide) (by omega) (by omega)).mono ?_
  rintro e w2 ⟨rfl, h2, f2⟩
  have H2 := Lib.hid h2
  have F2 := Lib.hid (F1.out.trans f2 (fun k h => .inl h))
  clear h2 f2 x3 H1 F1
  go_wp2_with fail
  refine (WrE.num H2.out hl (by rfl) (by decide) (by decide) (by omega) (by omega)).mono ?_
  rintro e w3 ⟨rfl, h3, f3⟩
  have H3 := Lib.hid h3
  have F3 := Lib.hid (F2.out.trans f3 (fun k h => .inl h))
  clear h3 f3 H2 F2
  go_wp2_with fail
  go_end0
  exact ⟨rfl, H3.out, F3.out⟩

def AskOut (id : Int) (l : List Lbl) (typ : Int) (w : World) (e : Ending) (w' : World) : Prop :=
  e = .returned (.tuple #[.string ⟨(if mayL l = true then askB id l typ else []).toArray⟩, .int .i64 (if mayL l = true then 0 else 9)]) ∧ Gr w w'

set_option maxHeartbeats 4000000 in
set_option maxRecDepth 100000 in
theorem qAsk_any (id : Int) (a : Option Addr) (cap : Nat) (l : List Lbl) (typ : Int) (W : World) (h : SlA W a l.length cap (strVs l)) (hid : 0 ≤ id ∧ id ≤ 65535) (ht : 0 ≤ typ ∧ typ ≤ 65535) :
    Calls Try.prog 32 #[.int .u16 id, .slice a l.length cap, .int .u16 typ] W (AskOut id l typ W) := by
  have hmf : ∀ (fn : Fn) (first cap : Array Value) (w : World), (Instr.makeFunc fn first cap).run Try.prog w = .ok (.func fn first cap) w := fun _ _ _ _ => rfl
  have hle := h.le
  have hmx := h.max
  obtain ⟨w1, hw1⟩ : ∃ w1, w1 = W.alloc (.cells #[.int .u16 typ] 61) := ⟨_, rfl⟩
  have f1 : Gr W w1 := by rw [hw1]; exact (Fr.refl _ _).alloc _
  have C1 := Lib.hid (nmEncode_any a cap l w1 (h.keep f1 (fun _ _ h => h)))
  have F1 := Lib.hid f1
  have HW1 := Lib.hid hw1
  have y1 : w1.cell? ⟨W.heap.size, 0, none⟩ = some (.int .u16 typ) := by rw [World.cell?, hw1, heap_alloc_if, if_pos rfl]; rfl
  have s1 : W.heap.size < w1.heap.size := by rw [hw1]; simp
  clear hw1 f1 h
  unfold NmAdd at C1
  unfold AskOut
  cases hmay : mayL l
  · rw [hmay] at C1
    simp only [Bool.false_eq_true, if_false] at C1 ⊢
    clear hmay
    go_enter Try.func32, Try.ntmps32
    go_upto_region 1 with fail
    rw [← HW1.out]
    go_wp2_with fail
    refine C1.out.mono ?_
    rintro e w2 ⟨rfl, f2⟩
    have F2 := Lib.hid (Gr.trans F1.out f2)
    clear f2
    go_wp2_with fail
    go_ret2
    exact ⟨rfl, F2.out.alloc _⟩
  rw [hmay] at C1
  simp only [if_true] at C1 ⊢
  rw [List.nil_append] at C1
  have hlen : (askB id l typ).length ≤ 1000000 := by
    unfold askB hdAskB
    have := ((mayL_iff l).1 hmay).2
    simp only [List.length_append, numB_length, two_length, lbSize_bytes]
    simp; omega
  have hbl : (bytesL l ++ [0]).length ≤ 300 := by
    have := ((mayL_iff l).1 hmay).2
    simp [lbSize_bytes]; omega
  have hhl : (hdAskB id).length = 12 := by simp [hdAskB, two_length]
  have C2 := Lib.hid (fun w => headEncode_any (hdAsk id) (hdAsk_fits hid) w)
  rw [hdAsk_out] at C2
  clear hmay
  obtain ⟨nb, hnb⟩ : ∃ nb, nb = bytesL l ++ [0] := ⟨_, rfl⟩
  rw [← hnb] at C1 hbl
  have C3 : Hid (∀ w g1 g2 g3, w.cell? ⟨g1, 0, none⟩ = some (.string ⟨(hdAskB id).toArray⟩) → w.cell? ⟨g2, 0, none⟩ = some (.string ⟨nb.toArray⟩) → w.cell? ⟨g3, 0, none⟩ = some (.int .u16 typ) →
      Calls Try.prog 47 #[.func (.func 69) #[] #[.pointer (some ⟨g1, 0, none⟩), .pointer (some ⟨g2, 0, none⟩), .pointer (some ⟨g3, 0, none⟩)]] w fun e w' => e = .returned (.tuple #[.string ⟨(askB id l typ).toArray⟩, .int .i64 0]) ∧ Gr w w') := Lib.hid (by
    intro w g1 g2 g3 c1 c2 c3
    have l1 := lt_of_cell c1
    have l2 := lt_of_cell c2
    have l3 := lt_of_cell c3
    simp only at l1 l2 l3
    refine (packWrite_any 69 #[.pointer (some ⟨g1, 0, none⟩), .pointer (some ⟨g2, 0, none⟩), .pointer (some ⟨g3, 0, none⟩)] w (fun _ => False) (fun x _ => x = .ok (askB id l typ)) (fun a w => enters_fn Try.func69 (by kernel_rfl) rfl _ w) (fun _ h => h.elim) (fun w2 f2 h2 => ?_)).mono ?_
    · have hE : WrE w.heap.size (wS w.heap.size) w2 (w.heap.size + 1) ((hdAskB id ++ nb) ++ (numB 2 typ ++ (numB 2 1 ++ []))) (askB id l typ) := ⟨[], _, _, h2, by rw [hnb]; simp [askB]⟩
      refine (ask1_any hE hlen (f2.cell c1 (fun h => h)) (f2.cell c2 (fun h => h)) (f2.cell c3 (fun h => h)) (by unfold wS; omega) ht (by omega)).mono ?_
      rintro e w' ⟨rfl, h3, f3⟩
      obtain ⟨bs, pp, v, h4, h5⟩ := h3
      rw [List.append_nil] at h5
      subst h5
      exact ⟨f3.mono (fun k _ h => .inl h), .ok _, .ok _ _ _ h4, rfl⟩
    · rintro e w' ⟨w0, x, rfl, rfl, _, _, f⟩
      exact ⟨rfl, Fr.mono f (fun k hk h => by rcases h with h | h; omega; exact h.elim)⟩)
  clear hnb hlen
  generalize askB id l typ = out at *
  generalize hdAskB id = hb at *
  simp only [hdAsk, Hd.val, hdZero, WOut.ending] at C2
  go_enter Try.func32, Try.ntmps32
  go_upto_region 1 with fail
  rw [← HW1.out]
  go_wp2_with fail
  refine C1.out.mono ?_
  rintro e w2 ⟨rfl, f2⟩
  have F2 := Lib.hid (Gr.trans F1.out f2)
  have y2 := f2.cell y1 (fun h => h)
  have s2 := f2.size
  obtain ⟨w3, hw3⟩ : ∃ w3, w3 = w2.alloc (.cells #[.string ⟨nb.toArray⟩] 9) := ⟨_, rfl⟩
  have f3 : Gr w2 w3 := by rw [hw3]; exact (Fr.refl _ _).alloc _
  have u3 : w3.cell? ⟨w2.heap.size, 0, none⟩ = some (.string ⟨nb.toArray⟩) := by rw [World.cell?, hw3, heap_alloc_if, if_pos rfl]; rfl
  have y3 := f3.cell y2 (fun h => h)
  have F3 := Lib.hid (Gr.trans F2.out f3)
  have HW3 := Lib.hid hw3
  clear f2 f3 hw3 y1 y2 C1 HW1 F1 F2
  go_upto_region 4 with fail
  rw [← HW3.out]
  clear HW3
  go_wp2_with fail
  refine (C2.out _).mono ?_
  rintro e w4 ⟨rfl, f4⟩
  have F4 := Lib.hid (Gr.trans F3.out f4)
  have y4 := f4.cell y3 (fun h => h)
  have u4 := f4.cell u3 (fun h => h)
  clear f4 y3 u3 F3 C2
  obtain ⟨w5, hw5⟩ : ∃ w5, w5 = w4.alloc (.cells #[.string ⟨hb.toArray⟩] 9) := ⟨_, rfl⟩
  have f5 : Gr w4 w5 := by rw [hw5]; exact (Fr.refl _ _).alloc _
  have v5 : w5.cell? ⟨w4.heap.size, 0, none⟩ = some (.string ⟨hb.toArray⟩) := by rw [World.cell?, hw5, heap_alloc_if, if_pos rfl]; rfl
  have C4 := Lib.hid (C3.out w5 _ _ _ v5 (f5.cell u4 (fun h => h)) (f5.cell y4 (fun h => h)))
  have F5 := Lib.hid (Gr.trans F4.out f5)
  have HW5 := Lib.hid hw5
  clear f5 hw5 v5 u4 y4 C3 F4
  go_wp2_with fail
  rw [← HW5.out]
  refine C4.out.mono ?_
  rintro e w6 ⟨rfl, f6⟩
  have F6 := Lib.hid (Gr.trans F5.out f6)
  clear f6
  go_wp2_with fail
  go_ret2
  exact ⟨rfl, F6.out⟩
end Go.Proofs.Ytkclgemkeifbaaa
