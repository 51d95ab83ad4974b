/-
  The reference of layer 24: a record's bytes, replies (printed by gen_repref.py).
-/
import Derived.Test.YtkclgemkeifbaaaRepBuild
import Derived.Test.YtkclgemkeifbaaaNmRef
import Derived.Test.YtkclgemkeifbaaaHeadR
namespace Go.Proofs.Ytkclgemkeifbaaa
open Go.RowKit Go.Proofs

theorem Try.infoRefRRec : (Try.prog.info? 112).map (fun i => i.size) = some 10 := by kernel_rfl
theorem conv_four (w : World) (r : RRec) (hf : r.Fits) : (convert 47 9 (.slice (some ⟨w.heap.size, 0, none⟩) 4 4)).run Try.prog (w.alloc (.cells #[.int .u8 r.a0, .int .u8 r.a1, .int .u8 r.a2, .int .u8 r.a3] 5)) =
    .ok (.string ⟨r.addr.toArray⟩) (w.alloc (.cells #[.int .u8 r.a0, .int .u8 r.a1, .int .u8 r.a2, .int .u8 r.a3] 5)) := by
  have b0 := by1_nat _ hf.a0
  have b1 := by1_nat _ hf.a1
  have b2 := by1_nat _ hf.a2
  have b3 := by1_nat _ hf.a3
  refine run_convert_bytes_back (P := Try.prog) _ 47 9 5 ⟨w.heap.size, 0, none⟩ 4 r.addr Try.underlying47 Try.underlying5 Try.underlying9 (fun j hj => ?_)
  match j, hj with
  | 0, _ => rw [Addr.add_lit, World.cell?_alloc_at _ _ _ _ rfl]; simp only [RRec.addr, List.getElem_cons_zero]; rw [b0]; rfl
  | 1, _ => rw [Addr.add_lit, World.cell?_alloc_at _ _ _ _ rfl]; simp only [RRec.addr, List.getElem_cons_zero, List.getElem_cons_succ]; rw [b1]; rfl
  | 2, _ => rw [Addr.add_lit, World.cell?_alloc_at _ _ _ _ rfl]; simp only [RRec.addr, List.getElem_cons_zero, List.getElem_cons_succ]; rw [b2]; rfl
  | 3, _ => rw [Addr.add_lit, World.cell?_alloc_at _ _ _ _ rfl]; simp only [RRec.addr, List.getElem_cons_zero, List.getElem_cons_succ]; rw [b3]; rfl
theorem two_num (n : Int) : two n = numB 2 n := rfl
theorem ttl_two (n : Int) (h : 0 ≤ n) : two (n / 65536) ++ two (n % 65536) = numB 4 n := by
  unfold two numB
  have e1 : (n / 65536).toNat = n.toNat / 65536 := by omega
  have e2 : (n % 65536).toNat = n.toNat % 65536 := by omega
  rw [e1, e2]
  simp only [bigEnd, List.cons_append, List.nil_append]
  congr 1
  · apply UInt8.toNat_inj.1; simp only [UInt8.toNat_ofNat']; omega
  · congr 1
    · apply UInt8.toNat_inj.1; simp only [UInt8.toNat_ofNat']; omega
    · congr 1
      · apply UInt8.toNat_inj.1; simp only [UInt8.toNat_ofNat']; omega
      · congr 1
        apply UInt8.toNat_inj.1; simp only [UInt8.toNat_ofNat']; omega

theorem cat_rec (typ ttl n : Int) (h : 0 ≤ ttl) (d : List UInt8) : (⟨#[192, 12]⟩ : ByteArray) ++ ⟨(two typ).toArray⟩ ++ ⟨#[0, 1]⟩ ++ ⟨(two (ttl / 65536)).toArray⟩ ++ ⟨(two (ttl % 65536)).toArray⟩ ++ ⟨(two n).toArray⟩ ++ ⟨d.toArray⟩ =
    ⟨(numB 2 49164 ++ (numB 2 typ ++ (numB 2 1 ++ (numB 4 ttl ++ (numB 2 n ++ d))))).toArray⟩ := by
  rw [← ttl_two ttl h]
  have e1 : (⟨#[192, 12]⟩ : ByteArray) = ⟨(numB 2 49164).toArray⟩ := rfl
  have e2 : (⟨#[0, 1]⟩ : ByteArray) = ⟨(numB 2 1).toArray⟩ := rfl
  rw [e1, e2]
  simp only [mk_cat, two_num, List.append_assoc]
theorem cat_serv (a b c : Int) (d : List UInt8) : (⟨(two a).toArray⟩ : ByteArray) ++ ⟨(two b).toArray⟩ ++ ⟨(two c).toArray⟩ ++ ⟨d.toArray⟩ ++ ⟨#[0]⟩ = ⟨(numB 2 a ++ (numB 2 b ++ (numB 2 c ++ (d ++ [0])))).toArray⟩ := by
  have e1 : (⟨#[0]⟩ : ByteArray) = ⟨([0] : List UInt8).toArray⟩ := rfl
  rw [e1]
  simp only [mk_cat, two_num, List.append_assoc]

def RefBytesEnd (r : RRec) (w : World) (e : Ending) (w' : World) : Prop := e = .returned (.tuple #[.string ⟨r.out.toArray⟩, .int .i64 r.code]) ∧ Gr w w'

set_option maxHeartbeats 4000000 in
set_option maxRecDepth 100000 in
theorem refBytes24_any (r : RRec) (a : Option Addr) (c : Nat) (W : World) (ht : SlA W a r.target.length c (strVs r.target)) (hf : r.Fits) :
    Calls Try.prog 43 #[.agg (r.refArr a c)] W (RefBytesEnd r W) := by
  have hle := ht.le
  have hmx := ht.max
  obtain ⟨w1, hw1⟩ : ∃ w1, w1 = W.alloc (.cells (r.refArr a c) 112) := ⟨_, rfl⟩
  have f1 : Gr W w1 := by rw [hw1]; exact (Fr.refl _ _).alloc _
  have hb1 : w1.heap[W.heap.size]? = some (.cells (r.refArr a c) 112 (0, 0)) := by rw [hw1, heap_alloc_if, if_pos rfl]
  obtain ⟨w2, hw2⟩ : ∃ w2, w2 = w1.alloc (.cells #[.int .u8 r.a0, .int .u8 r.a1, .int .u8 r.a2, .int .u8 r.a3] 5) := ⟨_, rfl⟩
  have f2 : Gr w1 w2 := by rw [hw2]; exact (Fr.refl _ _).alloc _
  have hcv : (convert 47 9 (.slice (some ⟨w1.heap.size, 0, none⟩) 4 4)).run Try.prog w2 = .ok (.string ⟨r.addr.toArray⟩) w2 := by rw [hw2]; exact conv_four w1 r hf
  have BX := Lib.hid (show Bx w1 W.heap.size (r.refCells a c) from Bx.of_block hb1)
  have y2 := BX.out 2 _ rfl
  have y3 := BX.out 3 _ rfl
  have y4 := BX.out 4 _ rfl
  have y5 := BX.out 5 _ rfl
  have BX2 := Lib.hid (BX.out.keep f2 (fun h => h))
  have F2 := Lib.hid (Gr.trans f1 f2)
  have HT := Lib.hid (ht.keep (Gr.trans f1 f2) (fun _ _ h => h))
  have HW1 := Lib.hid hw1
  have HW2 := Lib.hid hw2
  have z0 := BX2.out 0 _ rfl
  have z9 := BX2.out 9 _ rfl
  obtain ⟨⟨t0, t1⟩, ⟨l0, l1⟩, ⟨p0, p1⟩, ⟨q0, q1⟩, ⟨o0, o1⟩⟩ := (⟨hf.typ, hf.ttl, hf.prio, hf.weight, hf.port⟩ : _ ∧ _ ∧ _ ∧ _ ∧ _)
  clear hw1 hw2 f1 f2 hb1 ht hf BX
  unfold RefBytesEnd
  obtain ⟨O, hO⟩ : ∃ O, O = r.out := ⟨_, rfl⟩
  obtain ⟨C, hC⟩ : ∃ C, C = r.code := ⟨_, rfl⟩
  rw [← hO, ← hC]
  have HO := Lib.hid hO
  have HC := Lib.hid hC
  clear hO hC
  go_enter Try.func43, Try.ntmps43
  go_upto_region 1 with fail
  rw [← HW1.out]
  clear HW1
  go_upto_region 2 with (rw [← HW2.out])
  clear HW2 hcv y2 y3 y4 y5
  by_cases h1 : r.typ = 1
  · have hc : r.code = 0 := by unfold RRec.code; rw [if_pos h1]
    have hout : r.out = r.enc := by unfold RRec.out; rw [if_pos hc]
    have hd : r.data = r.addr := by unfold RRec.data; rw [if_pos h1]
    have X0 := Lib.hid z0
    have X1 := Lib.hid (BX2.out 1 _ rfl)
    have h33 : (r.typ == 33) = false := by rw [h1]; rfl
    have h11 : (r.typ == 1) = true := by rw [h1]; rfl
    have hz := mk_size r.addr
    have ha4 : r.addr.length ≤ 300 := by unfold RRec.addr; simp
    have C0 : C = 0 := by rw [HC.out, hc]
    have HO2 : Hid (O = numB 2 49164 ++ (numB 2 r.typ ++ (numB 2 1 ++ (numB 4 r.ttl ++ (numB 2 r.addr.length ++ r.addr))))) := Lib.hid (by rw [HO.out, hout]; unfold RRec.enc; rw [hd])
    subst C0
    generalize r.addr = d at *
    clear z9 HT BX2 hd hout hc h1 HO HC
    go_upto_region 8 with fail
    clear z0
    have tl1 := two_length r.typ
    have tl2 := two_length (r.ttl / 65536)
    have tl3 := two_length (r.ttl % 65536)
    have tl4 := two_length (d.length : Nat)
    haveI : Nonempty (WC (Gr w2)) := ⟨⟨w2, Fr.refl _ _⟩⟩
    have y0 : ∀ z : WC (Gr w2), z.val.cell? ⟨W.heap.size, 0, none⟩ = some (.int .i64 r.typ) := fun z => z.ok.cell (X0.out) (fun h => h)
    have y1 : ∀ z : WC (Gr w2), z.val.cell? ⟨W.heap.size, 1, none⟩ = some (.int .u32 r.ttl) := fun z => z.ok.cell (X1.out) (fun h => h)
    refine wp_region_plan [2, 9, 15, 19] (Plan.seq (List.range 25) .done) (fun w' => ∃ z : WC (Gr w2), w' = z.val) (by kernel_rfl) (by kernel_rfl) (fun c a w d v h => by cases d <;> exact h) (fun c a w d v h => by cases d <;> exact h) ⟨⟨w2.drew, (Fr.refl _ _).drew⟩, rfl⟩ ?_
    simp only [Plan.seq, List.range, List.range.loop, List.foldr]
    repeat (refine wpV_q (by simp only [List.getElem?_toArray, List.getElem?_cons_succ, List.getElem?_cons_zero] <;> rfl) (by rfl) (by rfl) ?_; go_big_quiet_step (fail); refine wpQuiet_nil ?_)
    refine wpV_e (by simp only [List.getElem?_toArray, List.getElem?_cons_succ, List.getElem?_cons_zero] <;> rfl) (by rfl) ?_
    go_wp2_with fail
    refine (refTwo_any _ _ (by omega) (by omega)).mono ?_
    rintro e x1 ⟨rfl, h1⟩
    go_wp2_with fail
    have g1 : Gr w2 x1 := Gr.trans ((Fr.refl _ _).drew) h1
    refine ⟨⟨⟨x1, g1⟩, rfl⟩, ?_⟩
    repeat (refine wpV_q (by simp only [List.getElem?_toArray, List.getElem?_cons_succ, List.getElem?_cons_zero] <;> rfl) (by rfl) (by rfl) ?_; go_big_quiet_step (fail); refine wpQuiet_nil ?_)
    refine wpV_e (by simp only [List.getElem?_toArray, List.getElem?_cons_succ, List.getElem?_cons_zero] <;> rfl) (by rfl) ?_
    go_wp2_with fail
    refine (refTwo_any _ _ (by omega) (by omega)).mono ?_
    rintro e x2 ⟨rfl, h2⟩
    go_wp2_with fail
    have g2 : Gr w2 x2 := Gr.trans (g1) h2
    refine ⟨⟨⟨x2, g2⟩, rfl⟩, ?_⟩
    repeat (refine wpV_q (by simp only [List.getElem?_toArray, List.getElem?_cons_succ, List.getElem?_cons_zero] <;> rfl) (by rfl) (by rfl) ?_; go_big_quiet_step (fail); refine wpQuiet_nil ?_)
    refine wpV_e (by simp only [List.getElem?_toArray, List.getElem?_cons_succ, List.getElem?_cons_zero] <;> rfl) (by rfl) ?_
    go_wp2_with fail
    refine (refTwo_any _ _ (by omega) (by omega)).mono ?_
    rintro e x3 ⟨rfl, h3⟩
    go_wp2_with fail
    have g3 : Gr w2 x3 := Gr.trans (g2) h3
    refine ⟨⟨⟨x3, g3⟩, rfl⟩, ?_⟩
    repeat (refine wpV_q (by simp only [List.getElem?_toArray, List.getElem?_cons_succ, List.getElem?_cons_zero] <;> rfl) (by rfl) (by rfl) ?_; go_big_quiet_step (fail); refine wpQuiet_nil ?_)
    refine wpV_e (by simp only [List.getElem?_toArray, List.getElem?_cons_succ, List.getElem?_cons_zero] <;> rfl) (by rfl) ?_
    go_wp2_with fail
    refine (refTwo_any _ _ (by omega) (by omega)).mono ?_
    rintro e x4 ⟨rfl, h4⟩
    go_wp2_with fail
    have g4 : Gr w2 x4 := Gr.trans (g3) h4
    refine ⟨⟨⟨x4, g4⟩, rfl⟩, ?_⟩
    repeat (refine wpV_q (by simp only [List.getElem?_toArray, List.getElem?_cons_succ, List.getElem?_cons_zero] <;> rfl) (by rfl) (by rfl) ?_; go_big_quiet_step (fail); refine wpQuiet_nil ?_)
    refine wpV_done ?_
    have F6 := Lib.hid (Gr.trans F2.out g4)
    clear y0 y1 this g1 g2 g3 g4 h1 h2 h3 h4
    go_wp2_with fail
    go_ret2
    refine ⟨?_, F6.out⟩
    rw [HO2.out, ← cat_rec _ _ _ l0]
    rfl
  by_cases h33 : r.typ = 33
  · have CM := Lib.hid (refMay21_any a c r.target w2 HT.out)
    cases hm : mayL r.target
    · have hc : r.code = 9 := by unfold RRec.code; rw [if_neg h1, if_pos h33, hm]; rfl
      have hout : O = [] := by rw [HO.out]; unfold RRec.out; rw [if_neg (by omega)]
      have C0 : C = 9 := by rw [HC.out, hc]
      rw [hm] at CM
      subst hout C0
      rw [h33] at z0
      clear hm hc h1 h33 HO HC HT BX2
      go_wp2_with fail
      refine CM.out.mono ?_
      rintro e w3 ⟨rfl, rfl⟩
      go_wp2_with fail
      go_ret2
      exact ⟨rfl, F2.out⟩
    · have hc : r.code = 0 := by unfold RRec.code; rw [if_neg h1, if_pos h33, hm]; rfl
      have hd : r.data = r.serv := by unfold RRec.data; rw [if_neg h1]
      have hdl := r.data_le hc
      rw [hd] at hdl
      have C0 : C = 0 := by rw [HC.out, hc]
      have HO2 : Hid (O = numB 2 49164 ++ (numB 2 r.typ ++ (numB 2 1 ++ (numB 4 r.ttl ++ (numB 2 r.serv.length ++ r.serv))))) := Lib.hid (by rw [HO.out]; unfold RRec.out RRec.enc; rw [if_pos hc, hd])
      have CB := Lib.hid (fun w (f : Gr w2 w) => refBytes21_any a c r.target w (HT.out.keep f (fun _ _ h => h)) hm)
      have hcat := cat_serv r.prio r.weight r.port (bytesL r.target)
      rw [show numB 2 r.prio ++ (numB 2 r.weight ++ (numB 2 r.port ++ (bytesL r.target ++ [0]))) = r.serv from rfl] at hcat
      have hbl : (bytesL r.target).length ≤ 254 := by have := ((mayL_iff _).1 hm).2; rw [lbSize_bytes]; exact this
      have HCAT := Lib.hid hcat
      have X0 : Hid (w2.cell? ⟨W.heap.size, 0, none⟩ = some (.int .i64 r.typ)) := Lib.hid z0
      have X1 := Lib.hid (BX2.out 1 _ rfl)
      have h331 : (r.typ == 33) = true := by rw [h33]; rfl
      have h332 : (r.typ == 1) = false := by rw [h33]; rfl
      have HH33 := Lib.hid h33
      rw [hm] at CM
      subst C0
      generalize r.serv = d at *
      generalize bytesL r.target = tb at *
      clear hm hc hd HO HC HT hcat h1 h33
      go_wp2_with fail
      refine CM.out.mono ?_
      rintro e w3 ⟨rfl, rfl⟩
      clear CM
      haveI : Nonempty (WC (Gr w2)) := ⟨⟨w2, Fr.refl _ _⟩⟩
      have y3 : ∀ z : WC (Gr w2), z.val.cell? ⟨W.heap.size, 6, none⟩ = some (.int .u16 r.prio) := fun z => z.ok.cell (BX2.out 6 _ rfl) (fun h => h)
      have y4 : ∀ z : WC (Gr w2), z.val.cell? ⟨W.heap.size, 7, none⟩ = some (.int .u16 r.weight) := fun z => z.ok.cell (BX2.out 7 _ rfl) (fun h => h)
      have y5 : ∀ z : WC (Gr w2), z.val.cell? ⟨W.heap.size, 8, none⟩ = some (.int .u16 r.port) := fun z => z.ok.cell (BX2.out 8 _ rfl) (fun h => h)
      have y9 : ∀ z : WC (Gr w2), z.val.cell? ⟨W.heap.size, 9, none⟩ = some (.slice a r.target.length c) := fun z => z.ok.cell (BX2.out 9 _ rfl) (fun h => h)
      have tl1 := two_length r.prio
      have tl2 := two_length r.weight
      have tl3 := two_length r.port
      clear BX2 z9 z0
      go_upto_region 5 with fail
      refine wp_region_plan [3, 7, 12, 16] (Plan.seq (List.range 20) .done) (fun w' => ∃ z : WC (Gr w2), w' = z.val) (by kernel_rfl) (by kernel_rfl) (fun c a w d v h => by cases d <;> exact h) (fun c a w d v h => by cases d <;> exact h) ⟨⟨w2.drew, (Fr.refl _ _).drew⟩, rfl⟩ ?_
      simp only [Plan.seq, List.range, List.range.loop, List.foldr]
      repeat (refine wpV_q (by simp only [List.getElem?_toArray, List.getElem?_cons_succ, List.getElem?_cons_zero] <;> rfl) (by rfl) (by rfl) ?_; go_big_quiet_step (fail); refine wpQuiet_nil ?_)
      refine wpV_e (by simp only [List.getElem?_toArray, List.getElem?_cons_succ, List.getElem?_cons_zero] <;> rfl) (by rfl) ?_
      go_wp2_with fail
      refine (refTwo_any _ _ (by omega) (by omega)).mono ?_
      rintro e v1 ⟨rfl, h1⟩
      go_wp2_with fail
      have g1 : Gr w2 v1 := Gr.trans ((Fr.refl _ _).drew) h1
      refine ⟨⟨⟨v1, g1⟩, rfl⟩, ?_⟩
      repeat (refine wpV_q (by simp only [List.getElem?_toArray, List.getElem?_cons_succ, List.getElem?_cons_zero] <;> rfl) (by rfl) (by rfl) ?_; go_big_quiet_step (fail); refine wpQuiet_nil ?_)
      refine wpV_e (by simp only [List.getElem?_toArray, List.getElem?_cons_succ, List.getElem?_cons_zero] <;> rfl) (by rfl) ?_
      go_wp2_with fail
      refine (refTwo_any _ _ (by omega) (by omega)).mono ?_
      rintro e v2 ⟨rfl, h2⟩
      go_wp2_with fail
      have g2 : Gr w2 v2 := Gr.trans (g1) h2
      refine ⟨⟨⟨v2, g2⟩, rfl⟩, ?_⟩
      repeat (refine wpV_q (by simp only [List.getElem?_toArray, List.getElem?_cons_succ, List.getElem?_cons_zero] <;> rfl) (by rfl) (by rfl) ?_; go_big_quiet_step (fail); refine wpQuiet_nil ?_)
      refine wpV_e (by simp only [List.getElem?_toArray, List.getElem?_cons_succ, List.getElem?_cons_zero] <;> rfl) (by rfl) ?_
      go_wp2_with fail
      refine (refTwo_any _ _ (by omega) (by omega)).mono ?_
      rintro e v3 ⟨rfl, h3⟩
      go_wp2_with fail
      have g3 : Gr w2 v3 := Gr.trans (g2) h3
      refine ⟨⟨⟨v3, g3⟩, rfl⟩, ?_⟩
      repeat (refine wpV_q (by simp only [List.getElem?_toArray, List.getElem?_cons_succ, List.getElem?_cons_zero] <;> rfl) (by rfl) (by rfl) ?_; go_big_quiet_step (fail); refine wpQuiet_nil ?_)
      refine wpV_e (by simp only [List.getElem?_toArray, List.getElem?_cons_succ, List.getElem?_cons_zero] <;> rfl) (by rfl) ?_
      go_wp2_with fail
      refine (CB.out _ (g3)).mono ?_
      rintro e v4 ⟨rfl, h4⟩
      go_wp2_with fail
      have g4 : Gr w2 v4 := Gr.trans (g3) h4
      refine ⟨⟨⟨v4, g4⟩, rfl⟩, ?_⟩
      repeat (refine wpV_q (by simp only [List.getElem?_toArray, List.getElem?_cons_succ, List.getElem?_cons_zero] <;> rfl) (by rfl) (by rfl) ?_; go_big_quiet_step (fail); refine wpQuiet_nil ?_)
      refine wpV_done ?_
      rw [HCAT.out]
      have X02 := Lib.hid (g4.cell X0.out (fun h => h))
      have X12 := Lib.hid (g4.cell X1.out (fun h => h))
      have z0 := X02.out
      have F4 := Lib.hid (Gr.trans F2.out g4)
      clear X0 X1 y3 y4 y5 y9 this tl1 tl2 tl3 g1 g2 g3 g4 h1 h2 h3 h4 CB HCAT
      have X0 := X02
      have X1 := X12
      clear X02 X12
      have hz := mk_size d
      go_upto_region 8 with fail
      clear z0
      have tl1 := two_length r.typ
      have tl2 := two_length (r.ttl / 65536)
      have tl3 := two_length (r.ttl % 65536)
      have tl4 := two_length (d.length : Nat)
      haveI : Nonempty (WC (Gr v4)) := ⟨⟨v4, Fr.refl _ _⟩⟩
      have y0 : ∀ z : WC (Gr v4), z.val.cell? ⟨W.heap.size, 0, none⟩ = some (.int .i64 r.typ) := fun z => z.ok.cell (X0.out) (fun h => h)
      have y1 : ∀ z : WC (Gr v4), z.val.cell? ⟨W.heap.size, 1, none⟩ = some (.int .u32 r.ttl) := fun z => z.ok.cell (X1.out) (fun h => h)
      refine wp_region_plan [2, 9, 15, 19] (Plan.seq (List.range 25) .done) (fun w' => ∃ z : WC (Gr v4), w' = z.val) (by kernel_rfl) (by kernel_rfl) (fun c a w d v h => by cases d <;> exact h) (fun c a w d v h => by cases d <;> exact h) ⟨⟨v4.drew, (Fr.refl _ _).drew⟩, rfl⟩ ?_
      simp only [Plan.seq, List.range, List.range.loop, List.foldr]
      repeat (refine wpV_q (by simp only [List.getElem?_toArray, List.getElem?_cons_succ, List.getElem?_cons_zero] <;> rfl) (by rfl) (by rfl) ?_; go_big_quiet_step (fail); refine wpQuiet_nil ?_)
      refine wpV_e (by simp only [List.getElem?_toArray, List.getElem?_cons_succ, List.getElem?_cons_zero] <;> rfl) (by rfl) ?_
      go_wp2_with fail
      refine (refTwo_any _ _ (by omega) (by omega)).mono ?_
      rintro e x1 ⟨rfl, h1⟩
      go_wp2_with fail
      have g1 : Gr v4 x1 := Gr.trans ((Fr.refl _ _).drew) h1
      refine ⟨⟨⟨x1, g1⟩, rfl⟩, ?_⟩
      repeat (refine wpV_q (by simp only [List.getElem?_toArray, List.getElem?_cons_succ, List.getElem?_cons_zero] <;> rfl) (by rfl) (by rfl) ?_; go_big_quiet_step (fail); refine wpQuiet_nil ?_)
      refine wpV_e (by simp only [List.getElem?_toArray, List.getElem?_cons_succ, List.getElem?_cons_zero] <;> rfl) (by rfl) ?_
      go_wp2_with fail
      refine (refTwo_any _ _ (by omega) (by omega)).mono ?_
      rintro e x2 ⟨rfl, h2⟩
      go_wp2_with fail
      have g2 : Gr v4 x2 := Gr.trans (g1) h2
      refine ⟨⟨⟨x2, g2⟩, rfl⟩, ?_⟩
      repeat (refine wpV_q (by simp only [List.getElem?_toArray, List.getElem?_cons_succ, List.getElem?_cons_zero] <;> rfl) (by rfl) (by rfl) ?_; go_big_quiet_step (fail); refine wpQuiet_nil ?_)
      refine wpV_e (by simp only [List.getElem?_toArray, List.getElem?_cons_succ, List.getElem?_cons_zero] <;> rfl) (by rfl) ?_
      go_wp2_with fail
      refine (refTwo_any _ _ (by omega) (by omega)).mono ?_
      rintro e x3 ⟨rfl, h3⟩
      go_wp2_with fail
      have g3 : Gr v4 x3 := Gr.trans (g2) h3
      refine ⟨⟨⟨x3, g3⟩, rfl⟩, ?_⟩
      repeat (refine wpV_q (by simp only [List.getElem?_toArray, List.getElem?_cons_succ, List.getElem?_cons_zero] <;> rfl) (by rfl) (by rfl) ?_; go_big_quiet_step (fail); refine wpQuiet_nil ?_)
      refine wpV_e (by simp only [List.getElem?_toArray, List.getElem?_cons_succ, List.getElem?_cons_zero] <;> rfl) (by rfl) ?_
      go_wp2_with fail
      refine (refTwo_any _ _ (by omega) (by omega)).mono ?_
      rintro e x4 ⟨rfl, h4⟩
      go_wp2_with fail
      have g4 : Gr v4 x4 := Gr.trans (g3) h4
      refine ⟨⟨⟨x4, g4⟩, rfl⟩, ?_⟩
      repeat (refine wpV_q (by simp only [List.getElem?_toArray, List.getElem?_cons_succ, List.getElem?_cons_zero] <;> rfl) (by rfl) (by rfl) ?_; go_big_quiet_step (fail); refine wpQuiet_nil ?_)
      refine wpV_done ?_
      have F6 := Lib.hid (Gr.trans F4.out g4)
      clear y0 y1 this g1 g2 g3 g4 h1 h2 h3 h4
      go_wp2_with fail
      go_ret2
      refine ⟨?_, F6.out⟩
      rw [HO2.out, ← cat_rec _ _ _ l0]
      rfl
  · have hc : r.code = 1 := by unfold RRec.code; rw [if_neg h1, if_neg h33]
    have hout : O = [] := by rw [HO.out]; unfold RRec.out; rw [if_neg (by omega)]
    have C0 : C = 1 := by rw [HC.out, hc]
    have e1 : (r.typ == 1) = false := by simpa using h1
    have e2 : (r.typ == 33) = false := by simpa using h33
    subst hout C0
    clear hc h1 h33 HO HC HT BX2 z9
    go_wp2_with fail
    go_ret2
    exact ⟨rfl, F2.out⟩
end Go.Proofs.Ytkclgemkeifbaaa
