/-
  The reference's Encode of messages.
-/
import Derived.Test.YtkclgemkeifbaaaMsgRefMay
import Derived.Test.YtkclgemkeifbaaaPackRefNum
import Derived.Test.YtkclgemkeifbaaaRegionW
namespace Go.Proofs.Ytkclgemkeifbaaa
open Go.RowKit Go.Proofs

/-- a string with these bytes -/
def StrIs (s : ByteArray) (l : List UInt8) : Prop := s.data.toList = l
theorem StrIs.size {s : ByteArray} {l : List UInt8} (h : StrIs s l) : s.size = l.length := by unfold StrIs at h; rw [← h]; simp
theorem StrIs.add {a b : ByteArray} {x y : List UInt8} (h : StrIs a x) (k : StrIs b y) : StrIs (a ++ b) (x ++ y) := by unfold StrIs at *; simp [h, k]
theorem StrIs.mk (l : List UInt8) : StrIs ⟨l.toArray⟩ l := by simp [StrIs]
theorem StrIs.eq {s : ByteArray} {l : List UInt8} (h : StrIs s l) : s = ⟨l.toArray⟩ := by
  apply ByteArray.ext; apply Array.ext'; unfold StrIs at h; simpa using h
theorem StrIs.conv {s : ByteArray} {l m : List UInt8} (h : StrIs s l) (e : l = m) : StrIs s m := e ▸ h

theorem bytesNum {k : Nat} {n : Int} (h1 : 1 ≤ k) (h8 : k ≤ 8) (h0 : 0 ≤ n) (hn : n < 256 ^ k) : numBytes n.toNat (k : Int) = numB k n := by
  unfold numBytes numB
  rw [if_pos]
  · rfl
  · refine ⟨by omega, by omega, ?_⟩
    obtain ⟨m, rfl⟩ := Int.eq_ofNat_of_zero_le h0
    simp only [Int.toNat_natCast]
    apply Int.ofNat_lt.1; rw [Int.natCast_pow]; exact hn
theorem rNum {w : World} (k : Nat) (n z : Int) (hz : z = k) (h1 : 1 ≤ k) (h8 : k ≤ 8) (h0 : 0 ≤ n) (hn : n < 256 ^ k) :
    Calls Try.prog 50 #[.int .u64 n, .int .i64 z] w fun e w' => ∃ s, e = .returned (.string s) ∧ Hid (StrIs s (numB k n)) ∧ s.size ≤ 8 ∧ Gr w w' := by
  subst hz
  have hp : 256 ^ k ≤ 256 ^ 8 := Nat.pow_le_pow_right (by decide) h8
  have hn' : n < 18446744073709551616 := by
    have : ((256 ^ k : Nat) : Int) ≤ ((256 ^ 8 : Nat) : Int) := by exact_mod_cast hp
    simp only [Int.natCast_pow] at this
    have e : (256 : Int) ^ 8 = 18446744073709551616 := rfl
    have : (n : Int) < (256 : Int) ^ 8 := Int.lt_of_lt_of_le hn this
    omega
  refine (refNum_in n k w h0 hn' (by omega) (by omega)).mono ?_
  rintro e w' ⟨rfl, hb⟩
  rw [bytesNum h1 h8 h0 hn]
  exact ⟨_, rfl, Lib.hid (StrIs.mk _), by rw [mk_size, numB_length]; exact h8, Gr.of_below hb⟩

set_option maxHeartbeats 1000000 in
theorem rBit (b : Bool) (w : World) : Calls Try.prog 51 #[.bool b] w fun e w' => ∃ s, e = .returned (.string s) ∧ Hid (StrIs s (numB 1 (bitN b))) ∧ s.size ≤ 8 ∧ Gr w w' := by
  cases b
  · go_enter Try.func51, Try.ntmps51
    go_wp2_with fail
    go_ret
    exact ⟨_, rfl, Lib.hid rfl, by decide, Fr.refl _ _⟩
  · go_enter Try.func51, Try.ntmps51
    go_wp2_with fail
    go_ret
    exact ⟨_, rfl, Lib.hid rfl, by decide, Fr.refl _ _⟩

set_option maxHeartbeats 1000000 in
theorem rText (s : ByteArray) (w : World) (hs : s.size ≤ 255) : Calls Try.prog 52 #[.string s] w fun e w' => ∃ t, e = .returned (.string t) ∧ Hid (StrIs t (txB s)) ∧ t.size ≤ 256 ∧ Gr w w' := by
  have hcv := conv_one w (UInt8.ofNat s.size) (s.size : Int) (by rw [UInt8.toNat_ofNat']; omega)
  have hmx : ¬ 9223372036854775807 < 1 + s.size := by omega
  go_enter Try.func52, Try.ntmps52
  go_wp2_with fail
  go_ret
  refine ⟨_, rfl, Lib.hid ?_, ?_, (Fr.refl _ _).alloc _⟩
  · exact StrIs.add (x := [UInt8.ofNat s.size]) (y := s.data.toList) rfl rfl
  · rw [ByteArray.size_append]; show 1 + s.size ≤ 256; omega

/-- while a message is written: its block, and old memory -/
structure EnSt (W : World) (m : Msg) (p : MsgP) (w : World) : Prop where
  fr : Gr W w
  bx : Bx w W.heap.size (m.cells p)
theorem EnSt.step {W : World} {m : Msg} {p : MsgP} {w w' : World} (h : EnSt W m p w) (f : Gr w w') : EnSt W m p w' := ⟨Gr.trans h.fr f, h.bx.keep f (fun h => h)⟩
theorem EnSt.drew {W : World} {m : Msg} {p : MsgP} {w : World} (h : EnSt W m p w) : EnSt W m p w.drew := h.step ((Fr.refl _ _).drew)
structure EnRc (W : World) (m : Msg) (p : MsgP) (q : Nat) (x : MRec) (w : World) : Prop where
  fr : Gr W w
  bx : Bx w W.heap.size (m.cells p)
  bq : Bx w q x.cells
theorem EnRc.step {W : World} {m : Msg} {p : MsgP} {q : Nat} {x : MRec} {w w' : World} (h : EnRc W m p q x w) (f : Gr w w') : EnRc W m p q x w' := ⟨Gr.trans h.fr f, h.bx.keep f (fun h => h), h.bq.keep f (fun h => h)⟩
theorem EnRc.drew {W : World} {m : Msg} {p : MsgP} {q : Nat} {x : MRec} {w : World} (h : EnRc W m p q x w) : EnRc W m p q x w.drew := h.step ((Fr.refl _ _).drew)

/-- what still lacks of the bytes enc behind the string s -/
def EncAcc (enc rest : List UInt8) (s : ByteArray) : Prop := ∃ l, StrIs s l ∧ l ++ rest = enc
theorem EncAcc.add {enc a rest : List UInt8} {s t : ByteArray} (h : EncAcc enc (a ++ rest) s) (k : StrIs t a) : EncAcc enc rest (s ++ t) := by
  obtain ⟨l, h1, h2⟩ := h
  exact ⟨l ++ a, h1.add k, by rw [List.append_assoc]; exact h2⟩
theorem EncAcc.le {enc rest : List UInt8} {s : ByteArray} {n : Nat} (h : EncAcc enc rest s) (hn : enc.length ≤ n) : s.size ≤ n := by
  obtain ⟨l, h1, rfl⟩ := h
  rw [h1.size]; simp at hn; omega

set_option maxHeartbeats 8000000 in
set_option maxRecDepth 100000 in
theorem refEncode_any (m : Msg) (p : MsgP) (W : World) (hf : m.fits) (h : MsgAt W m p) :
    Calls Try.prog 18 #[m.val p] W fun e w' => e = .returned (.tuple #[.string m.out, .int .i64 m.code]) ∧ Gr W w' := by
  have HM := Lib.hid (fun w' (f : Gr W w') => h.keep f)
  have HY := Lib.hid (fun w' (f : Gr W w') => refMay_any m p w' (h.keep f))
  obtain ⟨w1, hw1⟩ : ∃ w1, w1 = W.alloc (.cells #[.int .i64 m.kind, .int .i64 m.node, .int .i64 m.walk, .bool m.high, .slice p.a1 m.nodes.length p.c1, .slice p.a2 m.ids.length p.c2, .slice p.a3 m.recs.length p.c3] 34) := ⟨_, rfl⟩
  have S1 : EnSt W m p w1 := ⟨by rw [hw1]; exact (Fr.refl _ _).alloc _, by rw [hw1]; exact Bx.new W (m.arr p) 34⟩
  have ST1 := Lib.hid S1
  have HW1 := Lib.hid hw1
  clear hw1 S1 h
  cases hmay : m.may
  · have e1 : m.code = 1 := by unfold Msg.code; rw [hmay]; rfl
    have e2 : m.out = ⟨#[]⟩ := by unfold Msg.out; rw [e1]; rfl
    rw [hmay] at HY
    rw [e1, e2]
    clear hmay e1 e2
    have y0 := ST1.out.bx 0 _ rfl
    have y1 := ST1.out.bx 1 _ rfl
    have y2 := ST1.out.bx 2 _ rfl
    have y3 := ST1.out.bx 3 _ rfl
    have y4 := ST1.out.bx 4 _ rfl
    have y5 := ST1.out.bx 5 _ rfl
    have y6 := ST1.out.bx 6 _ rfl
    go_enter Try.func18, Try.ntmps18
    go_wp2_with fail
    rw [← HW1.out]
    refine (HY.out _ ST1.out.fr).mono ?_
    rintro e w2 ⟨rfl, f⟩
    have F2 := Lib.hid (Gr.trans ST1.out.fr f); clear f y0 y1 y2 y3 y4 y5 y6
    go_wp2_with fail
    go_ret2
    exact ⟨rfl, F2.out⟩
  have HV := Lib.hid (And.intro (Msg.enc_le hmay) hf)
  obtain ⟨⟨k0, k1⟩, ⟨n0, n1⟩, ⟨wk0, wk1⟩, l1, l2, l3, hN, hI, hRr⟩ := Msg.may_parts hmay
  have HN := Lib.hid hN
  have HI := Lib.hid hI
  have HRr := Lib.hid hRr
  rw [hmay] at HY
  have HMY := Lib.hid hmay
  clear hmay hN hI hRr hf
  go_enter Try.func18, Try.ntmps18
  go_wp2_with fail
  rw [← HW1.out]
  refine (HY.out _ ST1.out.fr).mono ?_
  rintro e w2 ⟨rfl, f⟩
  have ST2 := Lib.hid (ST1.out.step f); clear f HW1 ST1 HY
  haveI : Nonempty (WC (EnSt W m p)) := ⟨⟨_, ST2.out⟩⟩
  have x0 : ∀ z : WC (EnSt W m p), z.val.cell? ⟨W.heap.size, 0, none⟩ = some (.int .i64 m.kind) := fun z => z.ok.bx 0 _ rfl
  have x1 : ∀ z : WC (EnSt W m p), z.val.cell? ⟨W.heap.size, 1, none⟩ = some (.int .i64 m.node) := fun z => z.ok.bx 1 _ rfl
  have x2 : ∀ z : WC (EnSt W m p), z.val.cell? ⟨W.heap.size, 2, none⟩ = some (.int .i64 m.walk) := fun z => z.ok.bx 2 _ rfl
  have x3 : ∀ z : WC (EnSt W m p), z.val.cell? ⟨W.heap.size, 3, none⟩ = some (.bool m.high) := fun z => z.ok.bx 3 _ rfl
  have x4 : ∀ z : WC (EnSt W m p), z.val.cell? ⟨W.heap.size, 4, none⟩ = some (.slice p.a1 m.nodes.length p.c1) := fun z => z.ok.bx 4 _ rfl
  have STd := Lib.hid ST2.out.drew
  go_wp2_with fail
  refine wp_region_text [3, 7, 12, 16, 22] [] (fun w' => ∃ z : WC (EnSt W m p), w' = z.val) (by kernel_rfl) (by kernel_rfl) (fun c a w d v h => by cases d <;> exact h) (fun c a w d v h => by cases d <;> exact h) ⟨⟨_, STd.out⟩, rfl⟩ ?_
  repeat (refine wpU_q (by rfl) (by rfl) ?_; go_big_quiet_step (exact rfl); refine wpQuiet_nil ?_)
  refine wpU_e (by rfl) ?_
  go_wp2_with fail
  refine (rNum 1 _ 1 rfl (by decide) (by decide) (by omega) (by omega)).mono ?_
  rintro e w3 ⟨s3, rfl, H3, z3, f⟩
  have ST3 := Lib.hid (STd.out.step f); clear f
  go_wp2_with fail
  refine ⟨⟨⟨_, ST3.out⟩, rfl⟩, ?_⟩
  repeat (refine wpU_q (by rfl) (by rfl) ?_; go_big_quiet_step (exact rfl); refine wpQuiet_nil ?_)
  refine wpU_e (by rfl) ?_
  go_wp2_with fail
  refine (rNum 2 _ 2 rfl (by decide) (by decide) (by omega) (by omega)).mono ?_
  rintro e w4 ⟨s4, rfl, H4, z4, f⟩
  have ST4 := Lib.hid (ST3.out.step f); clear f
  go_wp2_with fail
  refine ⟨⟨⟨_, ST4.out⟩, rfl⟩, ?_⟩
  repeat (refine wpU_q (by rfl) (by rfl) ?_; go_big_quiet_step (exact rfl); refine wpQuiet_nil ?_)
  refine wpU_e (by rfl) ?_
  go_wp2_with fail
  refine (rNum 1 _ 1 rfl (by decide) (by decide) (by omega) (by omega)).mono ?_
  rintro e w5 ⟨s5, rfl, H5, z5, f⟩
  have ST5 := Lib.hid (ST4.out.step f); clear f
  go_wp2_with fail
  refine ⟨⟨⟨_, ST5.out⟩, rfl⟩, ?_⟩
  repeat (refine wpU_q (by rfl) (by rfl) ?_; go_big_quiet_step (exact rfl); refine wpQuiet_nil ?_)
  refine wpU_e (by rfl) ?_
  go_wp2_with fail
  refine (rBit m.high _).mono ?_
  rintro e w6 ⟨s6, rfl, H6, z6, f⟩
  have ST6 := Lib.hid (ST5.out.step f); clear f
  go_wp2_with fail
  refine ⟨⟨⟨_, ST6.out⟩, rfl⟩, ?_⟩
  repeat (refine wpU_q (by rfl) (by rfl) ?_; go_big_quiet_step (exact rfl); refine wpQuiet_nil ?_)
  refine wpU_e (by rfl) ?_
  go_wp2_with fail
  refine (rNum 1 _ 1 rfl (by decide) (by decide) (by omega) (by omega)).mono ?_
  rintro e w7 ⟨s7, rfl, H7, z7, f⟩
  have ST7 := Lib.hid (ST6.out.step f); clear f
  go_wp2_with fail
  refine ⟨⟨⟨_, ST7.out⟩, rfl⟩, ?_⟩
  repeat (refine wpU_q (by rfl) (by rfl) ?_; go_big_quiet_step (exact rfl); refine wpQuiet_nil ?_)
  refine wpU_nil ?_
  obtain ⟨acc, hacc⟩ : ∃ acc, acc = s3 ++ s4 ++ s5 ++ s6 ++ s7 := ⟨_, rfl⟩
  rw [← hacc]
  obtain ⟨enc, henc⟩ : ∃ enc, enc = m.enc := ⟨_, rfl⟩
  have hA : EncAcc enc (m.nodes.flatMap (numB 2) ++ (numB 1 m.ids.length ++ (m.ids.flatMap MId.enc ++ (numB 1 m.recs.length ++ m.recs.flatMap MRec.enc)))) acc := by
    rw [hacc, henc]
    refine ⟨_, (((H3.out.add H4.out).add H5.out).add H6.out).add H7.out, ?_⟩
    unfold Msg.enc
    simp only [List.append_assoc]
  have HE := Lib.hid (show enc.length ≤ 1000000 by rw [henc]; exact HV.out.1)
  have za := hA.le HE.out
  have HA := Lib.hid hA
  have HENC := Lib.hid henc
  clear hA henc hacc H3 H4 H5 H6 H7 z3 z4 z5 z6 z7 x0 x1 x2 x3 x4 STd ST2 ST3 ST4 ST5 ST6
  have HF1 := Lib.hid HV.out.2.1
  have HF2 := Lib.hid HV.out.2.2
  clear HV
  have HM0 := Lib.hid (HM.out W (Fr.refl _ _))
  have y4 := ST7.out.bx 4 _ rfl
  go_wp2_with fail
  clear y4
  go_loopw [4, 5] (fun sv iv wr => ∃ (k : Nat) (acc : ByteArray), iv = .int .i64 k ∧ k ≤ m.nodes.length ∧ sv = .string acc ∧ acc.size ≤ 1000000 ∧ Hid (EncAcc enc ((m.nodes.drop k).flatMap (numB 2) ++ (numB 1 m.ids.length ++ (m.ids.flatMap MId.enc ++ (numB 1 m.recs.length ++ m.recs.flatMap MRec.enc)))) acc) ∧ EnSt W m p wr) (fun _ iv _ => m.nodes.length - (intOf iv).toNat)
  case atStart => exact ⟨0, acc, rfl, Nat.zero_le _, rfl, za, Lib.hid HA.out, ST7.out⟩
  case round =>
    clear za HA ST7
    obtain ⟨k, acc, rfl, hk, rfl, za, HA, st⟩ := hrel
    have ST := Lib.hid st; clear st
    have y4 := ST.out.bx 4 _ rfl
    by_cases hlt : k < m.nodes.length
    · obtain ⟨bb, o, ea, hc⟩ := (HM.out wr ST.out.fr).node k hlt
      obtain ⟨g0, g1⟩ := HN.out _ (List.getElem_mem hlt)
      rw [ea] at y4
      clear ea
      have hA := HA.out
      rw [List.drop_eq_getElem_cons hlt, List.flatMap_cons, List.append_assoc] at hA
      have HB := Lib.hid hA; clear hA HA
      generalize m.nodes[k] = x at *
      go_wp2_with fail
      refine (rNum 2 _ 2 rfl (by decide) (by decide) (by omega) (by omega)).mono ?_
      rintro e w7 ⟨s, rfl, H, z, f⟩
      have ST7 := Lib.hid (ST.out.step f); clear f
      have HC := Lib.hid (HB.out.add H.out); clear HB H
      have zc := HC.out.le HE.out
      go_wp2_with fail
      go_roundw
      case rel => exact ⟨k + 1, acc ++ s, by go_num, by omega, rfl, zc, HC, ST7.out⟩
      case measure => simp [intOf]; omega
    · have hA := HA.out
      rw [List.drop_of_length_le (by omega), List.flatMap_nil, List.nil_append] at hA
      have HB := Lib.hid hA; clear hA HA
      have y5 := ST.out.bx 5 _ rfl
      go_wp2_with fail
      refine (rNum 1 _ 1 rfl (by decide) (by decide) (by omega) (by omega)).mono ?_
      rintro e w7 ⟨s, rfl, H, z, f⟩
      have ST7 := Lib.hid (ST.out.step f); clear f
      have HC := Lib.hid (HB.out.add H.out); clear HB H ST y4 y5 hlt hk
      have zc := HC.out.le HE.out
      go_wp2_with fail
      go_loopw [4, 6] (fun sv iv wr => ∃ (k : Nat) (acc : ByteArray), iv = .int .i64 k ∧ k ≤ m.ids.length ∧ sv = .string acc ∧ acc.size ≤ 1000000 ∧ Hid (EncAcc enc ((m.ids.drop k).flatMap MId.enc ++ (numB 1 m.recs.length ++ m.recs.flatMap MRec.enc)) acc) ∧ EnSt W m p wr) (fun _ iv _ => m.ids.length - (intOf iv).toNat)
      case atStart => exact ⟨0, acc ++ s, rfl, Nat.zero_le _, rfl, zc, HC, ST7.out⟩
      case round =>
        clear za zc HC ST7 z
        obtain ⟨k, acc, rfl, hk, rfl, za, HA, st⟩ := hrel
        have ST := Lib.hid st; clear st
        have y5 := ST.out.bx 5 _ rfl
        by_cases hlt : k < m.ids.length
        · obtain ⟨bb, o, ea, hc0, hc1⟩ := HM0.out.id k hlt
          have g0 := HI.out _ (List.getElem_mem hlt)
          have GV := Lib.hid (HF1.out _ (List.getElem_mem hlt))
          have hA := HA.out
          rw [List.drop_eq_getElem_cons hlt, List.flatMap_cons, List.append_assoc] at hA
          have HB := Lib.hid hA; clear hA HA
          generalize m.ids[k] = x at *
          have x5 : ∀ z : WC (EnSt W m p), z.val.cell? ⟨W.heap.size, 5, none⟩ = some (.slice (some ⟨bb, o, none⟩) m.ids.length p.c2) := fun z => by rw [← ea]; exact z.ok.bx 5 _ rfl
          have x50 : ∀ z : WC (EnSt W m p), z.val.cell? ⟨bb, o + k * 2, none⟩ = some (.string x.key) := fun z => z.ok.fr.cell hc0 (fun h => h)
          have x51 : ∀ z : WC (EnSt W m p), z.val.cell? ⟨bb, o + k * 2 + 1, none⟩ = some (.int .u64 x.ver) := fun z => z.ok.fr.cell hc1 (fun h => h)
          clear hc0 hc1 ea
          have STd := Lib.hid ST.out.drew
          go_wp2_with fail
          refine wp_region_text [7, 14] [] (fun w' => ∃ z : WC (EnSt W m p), w' = z.val) (by kernel_rfl) (by kernel_rfl) (fun c a w d v h => by cases d <;> exact h) (fun c a w d v h => by cases d <;> exact h) ⟨⟨_, STd.out⟩, rfl⟩ ?_
          repeat (refine wpU_q (by rfl) (by rfl) ?_; go_big_quiet_step (exact rfl); refine wpQuiet_nil ?_)
          refine wpU_e (by rfl) ?_
          go_wp2_with fail
          refine (rText x.key _ (by omega)).mono ?_
          rintro e w8 ⟨s8, rfl, H8, z8, f⟩
          have ST8 := Lib.hid (STd.out.step f); clear f
          go_wp2_with fail
          refine ⟨⟨⟨_, ST8.out⟩, rfl⟩, ?_⟩
          repeat (refine wpU_q (by rfl) (by rfl) ?_; go_big_quiet_step (exact rfl); refine wpQuiet_nil ?_)
          refine wpU_e (by rfl) ?_
          go_wp2_with fail
          refine (rNum 8 _ 8 rfl (by decide) (by decide) GV.out.1 (by have := GV.out.2; omega)).mono ?_
          rintro e w9 ⟨s9, rfl, H9, z9, f⟩
          have ST9 := Lib.hid (ST8.out.step f); clear f
          go_wp2_with fail
          refine ⟨⟨⟨_, ST9.out⟩, rfl⟩, ?_⟩
          repeat (refine wpU_q (by rfl) (by rfl) ?_; go_big_quiet_step (exact rfl); refine wpQuiet_nil ?_)
          refine wpU_nil ?_
          have HC := Lib.hid (show EncAcc enc _ (acc ++ (s8 ++ s9)) from EncAcc.add (a := MId.enc x) HB.out (StrIs.add H8.out H9.out)); clear HB H8 H9
          have zc := HC.out.le HE.out
          clear x5 x50 x51 STd ST8 ST y5
          go_wp2_with fail
          go_roundw
          case rel => exact ⟨k + 1, _, by go_num, by omega, rfl, zc, HC, ST9.out⟩
          case measure => simp [intOf]; omega
        · have hA := HA.out
          rw [List.drop_of_length_le (by omega), List.flatMap_nil, List.nil_append] at hA
          have HB := Lib.hid hA; clear hA HA
          have y6 := ST.out.bx 6 _ rfl
          go_wp2_with fail
          refine (rNum 1 _ 1 rfl (by decide) (by decide) (by omega) (by omega)).mono ?_
          rintro e w7 ⟨s, rfl, H, z, f⟩
          have ST7 := Lib.hid (ST.out.step f); clear f
          have HC := Lib.hid (HB.out.add H.out); clear HB H ST y5 y6 hlt hk
          have zc := HC.out.le HE.out
          go_wp2_with fail
          go_loopw [4, 7, 8] (fun sv iv _ wr => ∃ (k : Nat) (acc : ByteArray), iv = .int .i64 k ∧ k ≤ m.recs.length ∧ sv = .string acc ∧ acc.size ≤ 1000000 ∧ Hid (EncAcc enc ((m.recs.drop k).flatMap MRec.enc) acc) ∧ EnSt W m p wr) (fun _ iv _ _ => m.recs.length - (intOf iv).toNat)
          case atStart => exact ⟨0, acc ++ s, rfl, Nat.zero_le _, rfl, zc, HC, ST7.out⟩
          case round =>
            clear za zc HC ST7 z
            obtain ⟨k, acc, rfl, hk, rfl, za, HA, st⟩ := hrel
            have ST := Lib.hid st; clear st
            have y6 := ST.out.bx 6 _ rfl
            by_cases hlt : k < m.recs.length
            · obtain ⟨bb, o, ea, hc0, hc1, hc2, hc3, hc4, hc5⟩ := (HM.out wr ST.out.fr).rcd k hlt
              rw [ea] at y6
              clear ea
              obtain ⟨g0, g1, ⟨g2, g3⟩, g4, g5⟩ := HRr.out _ (List.getElem_mem hlt)
              have GV := Lib.hid (HF2.out _ (List.getElem_mem hlt))
              have hA := HA.out
              rw [List.drop_eq_getElem_cons hlt, List.flatMap_cons] at hA
              have HB := Lib.hid hA; clear hA HA
              generalize m.recs[k] = x at *
              obtain ⟨q, hq⟩ : ∃ q, q = wr.heap.size := ⟨_, rfl⟩
              obtain ⟨w5, hw5⟩ : ∃ w5, w5 = wr.alloc (.cells #[.string x.key, .int .u64 x.ver, .int .i64 x.origin, .int .i64 x.age, .bool x.gone, .string x.data] 127) := ⟨_, rfl⟩
              have SR : EnRc W m p q x w5 := by
                have f : Gr wr w5 := by rw [hw5]; exact (Fr.refl _ _).alloc _
                refine ⟨Gr.trans ST.out.fr f, ST.out.bx.keep f (fun h => h), ?_⟩
                rw [hw5, hq]; exact Bx.new wr #[.string x.key, .int .u64 x.ver, .int .i64 x.origin, .int .i64 x.age, .bool x.gone, .string x.data] 127
              have SR5 := Lib.hid SR
              have HW5 := Lib.hid (And.intro hw5 hq); clear SR hw5 hq
              go_wp2_with fail
              rw [← HW5.out.1, ← HW5.out.2]
              clear hc0 hc1 hc2 hc3 hc4 hc5 y6 HW5 ST
              haveI : Nonempty (WC (EnRc W m p q x)) := ⟨⟨_, SR5.out⟩⟩
              have x0 : ∀ z : WC (EnRc W m p q x), z.val.cell? ⟨q, 0, none⟩ = some (.string x.key) := fun z => z.ok.bq 0 _ rfl
              have x1 : ∀ z : WC (EnRc W m p q x), z.val.cell? ⟨q, 1, none⟩ = some (.int .u64 x.ver) := fun z => z.ok.bq 1 _ rfl
              have x2 : ∀ z : WC (EnRc W m p q x), z.val.cell? ⟨q, 2, none⟩ = some (.int .i64 x.origin) := fun z => z.ok.bq 2 _ rfl
              have x3 : ∀ z : WC (EnRc W m p q x), z.val.cell? ⟨q, 3, none⟩ = some (.int .i64 x.age) := fun z => z.ok.bq 3 _ rfl
              have x4 : ∀ z : WC (EnRc W m p q x), z.val.cell? ⟨q, 4, none⟩ = some (.bool x.gone) := fun z => z.ok.bq 4 _ rfl
              have x5 : ∀ z : WC (EnRc W m p q x), z.val.cell? ⟨q, 5, none⟩ = some (.string x.data) := fun z => z.ok.bq 5 _ rfl
              have STd := Lib.hid SR5.out.drew
              go_wp2_with fail
              refine wp_region_text [3, 6, 11, 16, 20, 24] [] (fun w' => ∃ z : WC (EnRc W m p q x), w' = z.val) (by kernel_rfl) (by kernel_rfl) (fun c a w d v h => by cases d <;> exact h) (fun c a w d v h => by cases d <;> exact h) ⟨⟨_, STd.out⟩, rfl⟩ ?_
              repeat (refine wpU_q (by rfl) (by rfl) ?_; go_big_quiet_step (exact rfl); refine wpQuiet_nil ?_)
              refine wpU_e (by rfl) ?_
              go_wp2_with fail
              refine (rText x.key _ (by omega)).mono ?_
              rintro e w10 ⟨s10, rfl, H10, z10, f⟩
              have ST10 := Lib.hid (STd.out.step f); clear f
              go_wp2_with fail
              refine ⟨⟨⟨_, ST10.out⟩, rfl⟩, ?_⟩
              repeat (refine wpU_q (by rfl) (by rfl) ?_; go_big_quiet_step (exact rfl); refine wpQuiet_nil ?_)
              refine wpU_e (by rfl) ?_
              go_wp2_with fail
              refine (rNum 8 _ 8 rfl (by decide) (by decide) GV.out.1 (by have := GV.out.2; omega)).mono ?_
              rintro e w11 ⟨s11, rfl, H11, z11, f⟩
              have ST11 := Lib.hid (ST10.out.step f); clear f
              go_wp2_with fail
              refine ⟨⟨⟨_, ST11.out⟩, rfl⟩, ?_⟩
              repeat (refine wpU_q (by rfl) (by rfl) ?_; go_big_quiet_step (exact rfl); refine wpQuiet_nil ?_)
              refine wpU_e (by rfl) ?_
              go_wp2_with fail
              refine (rNum 2 _ 2 rfl (by decide) (by decide) (by omega) (by omega)).mono ?_
              rintro e w12 ⟨s12, rfl, H12, z12, f⟩
              have ST12 := Lib.hid (ST11.out.step f); clear f
              go_wp2_with fail
              refine ⟨⟨⟨_, ST12.out⟩, rfl⟩, ?_⟩
              repeat (refine wpU_q (by rfl) (by rfl) ?_; go_big_quiet_step (exact rfl); refine wpQuiet_nil ?_)
              refine wpU_e (by rfl) ?_
              go_wp2_with fail
              refine (rNum 2 _ 2 rfl (by decide) (by decide) (by omega) (by omega)).mono ?_
              rintro e w13 ⟨s13, rfl, H13, z13, f⟩
              have ST13 := Lib.hid (ST12.out.step f); clear f
              go_wp2_with fail
              refine ⟨⟨⟨_, ST13.out⟩, rfl⟩, ?_⟩
              repeat (refine wpU_q (by rfl) (by rfl) ?_; go_big_quiet_step (exact rfl); refine wpQuiet_nil ?_)
              refine wpU_e (by rfl) ?_
              go_wp2_with fail
              refine (rBit x.gone _).mono ?_
              rintro e w14 ⟨s14, rfl, H14, z14, f⟩
              have ST14 := Lib.hid (ST13.out.step f); clear f
              go_wp2_with fail
              refine ⟨⟨⟨_, ST14.out⟩, rfl⟩, ?_⟩
              repeat (refine wpU_q (by rfl) (by rfl) ?_; go_big_quiet_step (exact rfl); refine wpQuiet_nil ?_)
              refine wpU_e (by rfl) ?_
              go_wp2_with fail
              refine (rText x.data _ (by omega)).mono ?_
              rintro e w15 ⟨s15, rfl, H15, z15, f⟩
              have ST15 := Lib.hid (ST14.out.step f); clear f
              go_wp2_with fail
              refine ⟨⟨⟨_, ST15.out⟩, rfl⟩, ?_⟩
              repeat (refine wpU_q (by rfl) (by rfl) ?_; go_big_quiet_step (exact rfl); refine wpQuiet_nil ?_)
              refine wpU_nil ?_
              have HC := Lib.hid (show EncAcc enc _ (acc ++ (s10 ++ s11 ++ s12 ++ s13 ++ s14 ++ s15)) from EncAcc.add (a := MRec.enc x) HB.out ((((((H10.out.add H11.out).add H12.out).add H13.out).add H14.out).add H15.out).conv (by unfold MRec.enc; simp only [List.append_assoc]))); clear HB H10 H11 H12 H13 H14 H15
              have zc := HC.out.le HE.out
              have S16 : EnSt W m p w15 := ⟨ST15.out.fr, ST15.out.bx⟩
              have ST16 := Lib.hid S16
              clear x0 x1 x2 x3 x4 x5 STd ST10 ST11 ST12 ST13 ST14 ST15 S16
              go_wp2_with fail
              go_roundw
              case rel => exact ⟨k + 1, _, by go_num, by omega, rfl, zc, HC, ST16.out⟩
              case measure => simp [intOf]; omega
            · have hA := HA.out
              rw [List.drop_of_length_le (by omega), List.flatMap_nil] at hA
              obtain ⟨l, hs, hl⟩ := hA
              rw [List.append_nil] at hl
              subst hl
              have hsz := hs.size
              have heq := hs.eq
              have hcode : m.code = if 4096 < acc.size then 3 else 0 := by unfold Msg.code; rw [if_pos HMY.out, ← HENC.out, hsz]
              have hout : m.out = if 4096 < acc.size then ⟨#[]⟩ else acc := by
                unfold Msg.out; rw [hcode]
                split
                · simp
                · simp only [if_true]; rw [← HENC.out, heq]
              clear HA hs hsz heq
              by_cases hlt4 : 4096 < acc.size
              · rw [if_pos hlt4] at hcode hout
                have HO := Lib.hid (And.intro hout hcode); clear hout hcode
                go_wp2_with fail
                go_ret2
                exact ⟨by rw [HO.out.1, HO.out.2]; rfl, ST.out.fr⟩
              · rw [if_neg hlt4] at hcode hout
                have HO := Lib.hid (And.intro hout hcode); clear hout hcode
                go_wp2_with fail
                go_ret2
                exact ⟨by rw [HO.out.1, HO.out.2]; rfl, ST.out.fr⟩
end Go.Proofs.Ytkclgemkeifbaaa
