/-
  Package stream: Frame.
-/
import Derived.Test.YtkclgemkeifbaaaMsgSame
import Derived.Test.YtkclgemkeifbaaaStrSpec
namespace Go.Proofs.Ytkclgemkeifbaaa
open Go.RowKit Go.Proofs

set_option maxHeartbeats 1000000 in
set_option maxRecDepth 100000 in
theorem frame1_any {B g : Nat} {S : Nat → Prop} {w : World} {b : Nat} {rest enc : List UInt8} {s : ByteArray} (h : WrE B S w b (numB 2 s.size ++ (s.data.toList ++ rest)) enc) (hl : enc.length ≤ 1000000)
    (hg : w.cell? ⟨g, 0, none⟩ = some (.string s)) (hS : ¬ S g) (hs : s.size < 65536) :
    Calls Try.prog 58 #[.pointer (some ⟨b, 0, none⟩), .pointer (some ⟨g, 0, none⟩)] w fun e w' => e = .returned (.tuple #[]) ∧ WrE B S w' b rest enc ∧ Fr S w w' := by
  have H := Lib.hid h; clear h
  have h0 : (0 : Int) ≤ (s.size : Int) := by omega
  have h1 : (s.size : Int) < 18446744073709551616 := by omega
  go_enter Try.func58, Try.ntmps58
  go_wp2_with fail
  refine (WrE.num H.out hl (by rfl) (by decide) (by decide) (by omega) (by omega)).mono ?_
  rintro e w1 ⟨rfl, h1, f1⟩
  have H1 := Lib.hid h1
  have F1 := Lib.hid f1
  have hg1 : w1.cell? ⟨g, 0, none⟩ = some (.string s) := f1.cell hg hS
  clear h1 f1 hg
  go_wp2_with fail
  refine (WrE.raw H1.out hl).mono ?_
  rintro e w2 ⟨rfl, h2, f2⟩
  have H2 := Lib.hid h2
  have F2 := Lib.hid (F1.out.trans f2 (fun k h => .inl h))
  clear h2 f2 hg1
  go_wp2_with fail
  go_end0
  exact ⟨rfl, H2.out, F2.out⟩

set_option maxHeartbeats 2000000 in
set_option maxRecDepth 100000 in
theorem frame_any (m : Msg) (p : MsgP) (W : World) (hf : m.fits) (hm : MsgAt W m p) :
    Calls Try.prog 22 #[m.val p] W fun e w' => e = .returned (.tuple #[.string m.frame, .int .i64 m.code]) ∧ Gr W w' := by
  have hmf : ∀ (fn : Fn) (first cap : Array Value) (w : World), (Instr.makeFunc fn first cap).run Try.prog w = .ok (.func fn first cap) w := fun _ _ _ _ => rfl
  have HE := Lib.hid (fun w1 (f : Gr W w1) => encode_any m p w1 hf (hm.keep f))
  have HB : Hid (m.code = 0 → m.out = ⟨m.enc.toArray⟩ ∧ m.enc.length ≤ 4096 ∧ m.frame = ⟨m.frB.toArray⟩) := Lib.hid (fun h => ⟨by unfold Msg.out; rw [if_pos h], (Msg.code_zero.1 h).2, by unfold Msg.frame; rw [if_pos h]⟩)
  have HN : Hid (m.code ≠ 0 → m.out = ⟨#[]⟩ ∧ m.frame = ⟨#[]⟩) := Lib.hid (fun h => ⟨by unfold Msg.out; rw [if_neg h], by unfold Msg.frame; rw [if_neg h]⟩)
  clear hf hm
  obtain ⟨w0, hw0⟩ : ∃ w0, w0 = W.alloc (.cells #[.int .i64 m.kind, .int .i64 m.node, .int .i64 m.walk, .bool m.high, .slice p.a1 m.nodes.length p.c1, .slice p.a2 m.ids.length p.c2, .slice p.a3 m.recs.length p.c3] 30) := ⟨_, rfl⟩
  have F0 := Lib.hid (show Gr W w0 by rw [hw0]; exact (Fr.refl _ _).alloc _)
  have B0 := Lib.hid (show Bx w0 W.heap.size (m.cells p) by rw [hw0]; exact Bx.new W (m.arr p) 30)
  have HW0 := Lib.hid hw0; clear hw0
  by_cases hc : m.code = 0
  · obtain ⟨ho, hl, hfr⟩ := HB.out hc
    have HC : ∀ (w1 : World) (g : Nat), w1.cell? ⟨g, 0, none⟩ = some (.string ⟨m.enc.toArray⟩) → Calls Try.prog 47 #[.func (.func 58) #[] #[.pointer (some ⟨g, 0, none⟩)]] w1 fun e w' => e = .returned (.tuple #[.string ⟨m.frB.toArray⟩, .int .i64 0]) ∧ Gr w1 w' := by
      intro w1 g hg
      have hgl := lt_of_cell hg
      have hsz := mk_size m.enc
      have hfl := frB_length m
      refine (packWrite_any 58 #[.pointer (some ⟨g, 0, none⟩)] w1 (fun _ => False) (fun x _ => x = .ok m.frB) (fun a w => enters_fn Try.func58 (by kernel_rfl) rfl _ w) (fun _ h => h.elim) (fun w2 f2 h2 => ?_)).mono ?_
      · have hE : WrE w1.heap.size (wS w1.heap.size) w2 (w1.heap.size + 1) (numB 2 (ByteArray.mk m.enc.toArray).size ++ ((ByteArray.mk m.enc.toArray).data.toList ++ [])) m.frB := ⟨[], _, _, h2, by rw [hsz]; simp [Msg.frB]⟩
        refine (frame1_any hE (by omega) (f2.cell hg (fun h => h)) (by unfold wS; simp only at hgl; omega) (by omega)).mono ?_
        rintro e w' ⟨rfl, h3, f3⟩
        obtain ⟨bs, pp, v, h4, h5⟩ := h3
        rw [List.append_nil] at h5
        subst h5
        exact ⟨f3.mono (fun k _ h => .inl h), .ok _, .ok _ _ _ h4, rfl⟩
      · rintro e w' ⟨w0, x, rfl, rfl, _, _, f⟩
        exact ⟨rfl, Fr.mono f (fun k hk h => by rcases h with h | h; omega; exact h.elim)⟩
    have HP := Lib.hid HC
    rw [hc, ho] at HE
    rw [hc, hfr]
    clear hc ho hl hfr HB HN HC
    go_enter Try.func22, Try.ntmps22
    go_wp2_with fail
    rw [← HW0.out]
    have y0 := B0.out 0 _ rfl
    have y1 := B0.out 1 _ rfl
    have y2 := B0.out 2 _ rfl
    have y3 := B0.out 3 _ rfl
    have y4 := B0.out 4 _ rfl
    have y5 := B0.out 5 _ rfl
    have y6 := B0.out 6 _ rfl
    clear HW0
    go_wp2_with fail
    refine (HE.out w0 F0.out).mono ?_
    rintro e w1 ⟨rfl, f1⟩
    have F1 := Lib.hid (Gr.trans F0.out f1); clear f1 y0 y1 y2 y3 y4 y5 y6 HE B0 F0
    go_wp2_with fail
    refine (HP.out _ _ (by rw [World.cell?_alloc_at _ _ _ _ rfl]; rfl)).mono ?_
    rintro e w2 ⟨rfl, f2⟩
    have F2 := Lib.hid (Gr.trans (Fr.alloc F1.out (.cells #[.string ⟨m.enc.toArray⟩] 9)) f2); clear f2 F1 HP
    go_wp2_with fail
    go_ret2
    exact ⟨rfl, F2.out⟩
  · obtain ⟨ho, hfr⟩ := HN.out hc
    have hne : (m.code == 0) = false := by simpa using hc
    rw [ho] at HE
    rw [hfr]
    clear ho hfr HB HN
    generalize m.code = c at *
    go_enter Try.func22, Try.ntmps22
    go_wp2_with fail
    rw [← HW0.out]
    have y0 := B0.out 0 _ rfl
    have y1 := B0.out 1 _ rfl
    have y2 := B0.out 2 _ rfl
    have y3 := B0.out 3 _ rfl
    have y4 := B0.out 4 _ rfl
    have y5 := B0.out 5 _ rfl
    have y6 := B0.out 6 _ rfl
    clear HW0
    go_wp2_with fail
    refine (HE.out w0 F0.out).mono ?_
    rintro e w1 ⟨rfl, f1⟩
    have F1 := Lib.hid (Gr.trans F0.out f1); clear f1 y0 y1 y2 y3 y4 y5 y6 HE B0 F0
    go_wp2_with fail
    go_ret2
    exact ⟨rfl, F1.out.alloc _⟩
end Go.Proofs.Ytkclgemkeifbaaa
