/-
  ViewEvicts: what stands behind its first loop (head printed by dext).
-/
import Derived.Test.YtdpnkikaciigoaaViewEv
import Derived.Test.YtdpnkikaciigoaaCodeAt
namespace Go.Proofs.Ytdpnkikaciigoaa
open Go.RowKit Go.Proofs

theorem vEvict_nil (v : Vw) (ds : List Int) (h : v.act = []) : vEvict v ds = (v, 0, false, ds) := by unfold vEvict; rw [if_pos h]

set_option maxHeartbeats 16000000 in
set_option maxRecDepth 100000 in
theorem ve_tail {a0 : Option Addr} {c0 : Nat} {ln : List Int} {s0 : Int} {s1 : Int} {a2 : Option Addr} {c2 : Nat} {lc : List Int} {W : World} {aa : Int} {pp : Int} {q : Nat}
    (hWq : W.heap.size ≤ q) {dp : Value}
    (HPW : Hid (∀ (k : Nat), pblk dp k → W.heap.size ≤ k)) {wr : World} {u6 : Value} {u12 : Value} {u13 : Value} {u48 : Value} {u49 : Value} {u50 : Value} {u51 : Value} {u52 : Value} {u53 : Value} {u54 : Value} {u55 : Value} {u56 : Value} {u57 : Value} {u58 : Value} {u59 : Value} {u60 : Value} {u61 : Value} {u62 : Value} {u63 : Value} {u64 : Value} {u65 : Value} {u66 : Value} {u67 : Value} {u68 : Value} {u69 : Value} {u70 : Value} {k : Nat} {v : Vw} {y : VwP}
    (VK : Hid (VarV W q wr v y))
    (DK : Hid (DrawV wr dp lc))
    (SEP : Hid (VwSep dp y)) {u40 : Value} {u41 : Value} {u42 : Value} {u43 : Value} {u44 : Value} {u45 : Value} {u46 : Value}
    (EB : Hid (EvB v (1 + aa) pp v.act.length 0)) :
    Code.wp Try.prog (codeAt [1, 1, 1, 1, 1, 1, 0] ((Try.f6).body.getD .skip)) (Exit.then (fun a w => Code.wp Try.prog (codeAt [1, 1, 1, 1, 1, 1, 1] ((Try.f6).body.getD .skip)) (bodyPost Try.prog Try.f6 fun (e : Ending) (w' : World) => e = Ending.returned (Value.bool true) ∧ Gr W w') a w) (bodyPost Try.prog Try.f6 fun (e : Ending) (w' : World) => e = Ending.returned (Value.bool true) ∧ Gr W w')) ⟨List.toArray (Value.slice a0 ln.length c0 :: Value.agg #[Value.int IntKind.u8 s0, Value.int IntKind.u8 s1] :: Value.slice a2 lc.length c2 :: undef :: Value.pointer (some { block := W.heap.size, off := 0 }) :: undef :: u6 :: Value.int IntKind.i64 (1 + aa) :: Value.int IntKind.i64 pp :: Value.pointer (some { block := q, off := 0 }) :: dp :: Value.int IntKind.i64 (↑k : Int) :: u12 :: u13 :: undef :: undef :: undef :: undef :: undef :: undef :: undef :: undef :: undef :: undef :: Value.bool true :: Value.bool false :: Value.pointer (some { block := W.heap.size, off := 0 }) :: Value.int IntKind.u8 s0 :: Value.int IntKind.i64 s0 :: Value.int IntKind.i64 aa :: Value.int IntKind.i64 (1 + aa) :: Value.pointer (some { block := W.heap.size, off := 1 }) :: Value.int IntKind.u8 s1 :: Value.int IntKind.i64 s1 :: Value.int IntKind.i64 pp :: Value.int IntKind.i64 (1 + aa) :: Value.int IntKind.i64 pp :: (Vw.mk 300 [] (1 + aa) [] pp).val vwNone :: Value.slice a2 lc.length c2 :: dp :: u40 :: u41 :: u42 :: u43 :: u44 :: u45 :: u46 :: Value.bool false :: u48 :: u49 :: u50 :: u51 :: u52 :: u53 :: u54 :: u55 :: u56 :: u57 :: u58 :: u59 :: u60 :: u61 :: u62 :: u63 :: u64 :: u65 :: u66 :: u67 :: u68 :: u69 :: u70 :: undef :: undef :: undef :: undef :: undef :: undef :: undef :: undef :: undef :: undef :: undef :: undef :: undef :: undef :: undef :: undef :: undef :: undef :: undef :: undef :: undef :: undef :: undef :: undef :: undef :: undef :: undef :: undef :: undef :: undef :: undef :: undef :: undef :: undef :: undef :: undef :: undef :: undef :: undef :: undef :: undef :: undef :: undef :: undef :: undef :: undef :: undef :: undef :: undef :: undef :: undef :: undef :: undef :: undef :: undef :: undef :: undef :: undef :: undef :: undef :: undef :: undef :: undef :: undef :: undef :: undef :: undef :: undef :: undef :: undef :: undef :: undef :: undef :: undef :: undef :: undef :: []), []⟩ wr := by
  conv => arg 2; whnf
  obtain ⟨iz, hz1, hz2, hzs⟩ := info_pair Try.zeroView
  obtain ⟨N, hN⟩ : ∃ N, N = v.act.length := ⟨_, rfl⟩
  rw [← hN] at EB
  have y1 := (Bx.of_block VK.out.blk) 1 _ rfl
  have y2 := (Bx.of_block VK.out.blk) 2 _ rfl
  have l1 := VK.out.at_.act.le
  have l2 := VK.out.at_.act.max
  have CL := Lib.hid (fun w => show Calls Try.prog 23 #[setV y.aa v.act.length y.ac v.am] w fun e w' => e = .returned (.int .i64 N) ∧ Gr w w' by rw [hN]; exact setLen_any y.aa v.act.length y.ac v.am w)
  have hN64 : N ≤ 64 := by rw [hN]; exact VK.out.at_.good.act.len
  clear hN
  go_wp2_with fail
  refine (CL.out _).mono ?_
  rintro e w5 ⟨rfl, f5⟩
  have V5 := Lib.hid (VK.out.keep f5)
  have D5 := Lib.hid (DK.out.keep f5)
  clear f5 VK DK y1 y2 CL l1 l2
  go_wp2_with fail
  conv => arg 2; whnf
  go_wp2_with fail
  go_loopw [15, 16] (fun sv iv wr => ∃ (i : Nat) (v : Vw) (y : VwP) (ds : List Int), iv = .int .i64 i ∧ sv = .int .i64 i ∧ i ≤ N ∧ Hid (EvB v (1 + aa) pp N i) ∧ VarV W q wr v y ∧ DrawV wr dp ds ∧ VwSep dp y) (fun _ iv _ => N - (intOf iv).toNat)
  case atStart => exact ⟨0, v, y, lc, rfl, rfl, Nat.zero_le _, EB, V5.out, D5.out, SEP.out⟩
  case round =>
    clear V5 D5 EB SEP
    obtain ⟨i, v, y, ds, rfl, rfl, hi, EB, hv, hd, hsep⟩ := hrel
    have VK := Lib.hid hv
    have DK := Lib.hid hd
    have SEP := Lib.hid hsep
    have hqw := hv.lt
    have l1 := hv.at_.act.le
    have l2 := hv.at_.act.max
    have l3 := hv.at_.pas.le
    have l4 := hv.at_.pas.max
    clear hv hd hsep
    by_cases hlt : i < N
    · obtain ⟨heb, hev⟩ := EB.out.step DK.out.range hlt
      have CE := Lib.hid (fun w (h : VwAt w v y) (hd : DrawV w dp ds) => viewEvict_any v y dp ds w h hd SEP.out)
      unfold VEnd at CE
      obtain ⟨v', nn, ok, d', hvd⟩ : ∃ v' nn ok d', vEvict v ds = (v', nn, ok, d') := ⟨_, _, _, _, rfl⟩
      obtain ⟨h1, h2, h3, h4, h5, h6, h7, h8, h9, h10⟩ := hev
      rw [hvd] at CE heb h1 h2 h3 h4 h5 h6 h7 h8 h9 h10
      simp only at CE heb h1 h2 h3 h4 h5 h6 h7 h8 h9 h10
      subst h1
      have HEB := Lib.hid heb
      have hH1 : has v.act nn = true := (has_iff _ _).2 h2
      have hH2 : has v'.act nn = false := (has_no _ _).2 (by rw [h4]; intro h; exact ((sDrop_mem EB.out.good.act.up nn nn).1 h).2 rfl)
      obtain ⟨bp, hbp⟩ : ∃ b, decide ((0 : Int) < pp) = b := ⟨_, rfl⟩
      have hH3 : has v'.pas nn = bp := by rw [h6, EB.out.pm, hbp]
      have hH4 : vSane v' = true := (vSane_iff v').2 heb.sane
      have HH1 := Lib.hid hH1
      have HH2 := Lib.hid hH2
      have HH3 := Lib.hid hH3
      have HH4 := Lib.hid hH4
      have hnode := h3
      obtain ⟨m, hm⟩ : ∃ m, m = v'.act.length := ⟨_, rfl⟩
      have hm1 : (v.act.length : Int) - 1 = (m : Int) := by omega
      have HM := Lib.hid hm
      have hm64 : m ≤ 64 := by have := EB.out.good.act.len; omega
      have hvl64 : v.act.length ≤ 64 := EB.out.good.act.len
      clear h2 h3 h4 h5 h6 h7 h8 h9 h10 hvd heb hH1 hH2 hH3 hH4 hm
      go_upto_region 18 with fail
      refine wp_region_lit ?_
      refine wpList_load_mid (by rfl) 29 _ (by rfl) q 0 (by rfl) (Array.toList (v.arr y)) _ (blk_range VK.out.blk) Try.underlying29 rfl Try.infoView ?_
      refine wpList_fresh (vs := v.arr y) hz1 hz2 Try.infoView (by rfl) (by rw [← Array.all_toList]; rfl) (by rfl) (by rfl) ?_
      intro w5 f5 b5 l5
      have V5 := Lib.hid (VK.out.keep f5)
      have D5 := Lib.hid (DK.out.keep f5)
      have hgd : ¬ pblk dp wr.heap.size := fun h => by have := DK.out.lt _ h; omega
      obtain ⟨g, hg⟩ : ∃ g, g = wr.heap.size := ⟨_, rfl⟩
      rw [← hg] at b5 l5 hgd ⊢
      have B5 := Lib.hid b5
      have HGD := Lib.hid hgd
      have hqg : q < g := by omega
      clear f5 b5 VK DK hg hgd
      go_upto_region 19 with fail
      refine wp_region_lit ?_
      refine wpList_load_mid (by rfl) 29 _ (by rfl) q 0 (by rfl) (Array.toList (v.arr y)) _ (blk_range V5.out.blk) Try.underlying29 rfl Try.infoView ?_
      go_wp2_with fail
      refine (CE.out w5 V5.out.at_ D5.out).mono ?_
      rintro e w6 ⟨y', rfl, h6, d6, f6, k6⟩
      have V6 := Lib.hid (V5.out.drawn D5.out SEP.out f6 HPW.out)
      have B6 := Lib.hid (blk_keep f6 B5.out HGD.out)
      have D6 := Lib.hid d6
      have H6 := Lib.hid h6
      have SEP6 := Lib.hid (SEP.out.of_from D5.out k6)
      have AP6 := Lib.hid (V5.out.apart.next k6 (fun k h => by have := V5.out.lt; omega))
      have HV6 := Lib.hid (V5.out.at_.drawn SEP.out f6)
      have l6 := h6.act.le
      have l7 := h6.act.max
      have l8 := h6.pas.le
      have l9 := h6.pas.max
      clear f6 d6 h6 k6 V5 D5 B5 CE SEP l5
      go_wp2_with (refine wpList_fresh (vs := v'.arr y') hz1 hz2 Try.infoView (by rfl) (by rw [← Array.all_toList]; rfl) (by rfl) (by rfl) ?_)
      intro w7 f7 b7 l7'
      have V7 := Lib.hid (V6.out.keep f7)
      have B7 := Lib.hid (blk_keep f7 B6.out (fun h => h))
      have D7 := Lib.hid (D6.out.keep f7)
      have H7 := Lib.hid (H6.out.gr f7)
      have HV7 := Lib.hid (HV6.out.gr f7)
      obtain ⟨g2, hg2⟩ : ∃ g2, g2 = w6.heap.size := ⟨_, rfl⟩
      rw [← hg2] at b7 l7' ⊢
      have C7 := Lib.hid b7
      clear f7 b7 V6 B6 D6 H6 HV6 hg2 l7'
      have CH1 := Lib.hid (fun w (f : Gr w7 w) => setHas_any y.aa y.ac v.act v.am nn w (HV7.out.gr f).act EB.out.good.act)
      rw [HH1.out] at CH1
      have CH2 := Lib.hid (fun w (f : Gr w7 w) => setHas_any y'.aa y'.ac v'.act v'.am nn w (H7.out.gr f).act H7.out.good.act)
      rw [HH2.out] at CH2
      have CH3 := Lib.hid (fun w (f : Gr w7 w) => setHas_any y'.pa y'.pc v'.pas v'.pm nn w (H7.out.gr f).pas H7.out.good.pas)
      rw [HH3.out] at CH3
      have CS := Lib.hid (fun w (f : Gr w7 w) => viewSane_any v' y' w (H7.out.gr f))
      rw [HH4.out] at CS
      have CL1 := Lib.hid (fun w => show Calls Try.prog 23 #[setV y'.aa v'.act.length y'.ac v'.am] w fun e w' => e = .returned (.int .i64 m) ∧ Gr w w' by rw [HM.out]; exact setLen_any y'.aa v'.act.length y'.ac v'.am w)
      have CL2 := Lib.hid (fun w => setLen_any y.aa v.act.length y.ac v.am w)
      clear HH1 HH2 HH3 HH4 HV7 HM
      haveI : Nonempty (WC (Gr w7)) := ⟨⟨w7, Fr.refl _ _⟩⟩
      have u1 : ∀ z : WC (Gr w7), z.val.cell? ⟨g, 1, none⟩ = some (.slice y.aa v.act.length y.ac) := fun z => z.ok.cell ((Bx.of_block B7.out) 1 _ rfl) (fun h => h)
      have u2 : ∀ z : WC (Gr w7), z.val.cell? ⟨g, 2, none⟩ = some (.int .i64 v.am) := fun z => z.ok.cell ((Bx.of_block B7.out) 2 _ rfl) (fun h => h)
      have z0 : ∀ z : WC (Gr w7), z.val.cell? ⟨g2, 0, none⟩ = some (.int .i64 v'.self) := fun z => z.ok.cell ((Bx.of_block C7.out) 0 _ rfl) (fun h => h)
      have z1 : ∀ z : WC (Gr w7), z.val.cell? ⟨g2, 1, none⟩ = some (.slice y'.aa v'.act.length y'.ac) := fun z => z.ok.cell ((Bx.of_block C7.out) 1 _ rfl) (fun h => h)
      have z2 : ∀ z : WC (Gr w7), z.val.cell? ⟨g2, 2, none⟩ = some (.int .i64 v'.am) := fun z => z.ok.cell ((Bx.of_block C7.out) 2 _ rfl) (fun h => h)
      have z3 : ∀ z : WC (Gr w7), z.val.cell? ⟨g2, 3, none⟩ = some (.slice y'.pa v'.pas.length y'.pc) := fun z => z.ok.cell ((Bx.of_block C7.out) 3 _ rfl) (fun h => h)
      have z4 : ∀ z : WC (Gr w7), z.val.cell? ⟨g2, 4, none⟩ = some (.int .i64 v'.pm) := fun z => z.ok.cell ((Bx.of_block C7.out) 4 _ rfl) (fun h => h)
      go_upto_region 20 with fail
      refine wp_region_plan [6, 13, 19, 26, 32, 35] (Plan.seq (List.range 39) .done) (fun w' => ∃ z : WC (Gr w7), w' = z.val) (by kernel_rfl) (by kernel_rfl) (fun c a w d v h => by cases d <;> exact h) (fun c a w d v h => by cases d <;> exact h) ⟨⟨w7.drew, (Fr.refl _ _).drew⟩, rfl⟩ ?_
      simp only [Plan.seq, List.range, List.range.loop, List.foldr]
      refine wpV_q (by simp only [List.getElem?_toArray, List.getElem?_cons_zero] <;> rfl) (by rfl) (by rfl) ?_
      go_big_quiet_step (fail)
      refine wpQuiet_nil ?_
      have G0 := Lib.hid (show Gr w7 w7.drew from (Fr.refl _ _).drew)
      repeat (refine wpV_q (by simp only [List.getElem?_toArray, List.getElem?_cons_succ, List.getElem?_cons_zero] <;> rfl) (by rfl) (by rfl) ?_; go_big_quiet_step (fail); refine wpQuiet_nil ?_)
      refine wpV_e (by simp only [List.getElem?_toArray, List.getElem?_cons_succ, List.getElem?_cons_zero] <;> rfl) (by rfl) ?_
      go_wp2_with fail
      refine (CH1.out _ G0.out).mono ?_
      rintro e t0 ⟨rfl, ft⟩
      have G1 := Lib.hid (Gr.trans G0.out ft)
      clear ft CH1
      go_wp2_with fail
      refine ⟨⟨⟨t0, G1.out⟩, rfl⟩, ?_⟩
      repeat (refine wpV_q (by simp only [List.getElem?_toArray, List.getElem?_cons_succ, List.getElem?_cons_zero] <;> rfl) (by rfl) (by rfl) ?_; go_big_quiet_step (fail); refine wpQuiet_nil ?_)
      refine wpV_e (by simp only [List.getElem?_toArray, List.getElem?_cons_succ, List.getElem?_cons_zero] <;> rfl) (by rfl) ?_
      go_wp2_with fail
      refine (CH2.out _ G1.out).mono ?_
      rintro e t1 ⟨rfl, ft⟩
      have G2 := Lib.hid (Gr.trans G1.out ft)
      clear ft CH2
      go_wp2_with fail
      refine ⟨⟨⟨t1, G2.out⟩, rfl⟩, ?_⟩
      repeat (refine wpV_q (by simp only [List.getElem?_toArray, List.getElem?_cons_succ, List.getElem?_cons_zero] <;> rfl) (by rfl) (by rfl) ?_; go_big_quiet_step (fail); refine wpQuiet_nil ?_)
      refine wpV_e (by simp only [List.getElem?_toArray, List.getElem?_cons_succ, List.getElem?_cons_zero] <;> rfl) (by rfl) ?_
      go_wp2_with fail
      refine (CH3.out _ G2.out).mono ?_
      rintro e t2 ⟨rfl, ft⟩
      have G3 := Lib.hid (Gr.trans G2.out ft)
      clear ft CH3
      go_wp2_with fail
      refine ⟨⟨⟨t2, G3.out⟩, rfl⟩, ?_⟩
      repeat (refine wpV_q (by simp only [List.getElem?_toArray, List.getElem?_cons_succ, List.getElem?_cons_zero] <;> rfl) (by rfl) (by rfl) ?_; go_big_quiet_step (fail); refine wpQuiet_nil ?_)
      refine wpV_e (by simp only [List.getElem?_toArray, List.getElem?_cons_succ, List.getElem?_cons_zero] <;> rfl) (by rfl) ?_
      go_wp2_with fail
      refine (CS.out _ G3.out).mono ?_
      rintro e t3 ⟨rfl, ft⟩
      have G4 := Lib.hid (Gr.trans G3.out ft)
      clear ft CS
      go_wp2_with fail
      refine ⟨⟨⟨t3, G4.out⟩, rfl⟩, ?_⟩
      repeat (refine wpV_q (by simp only [List.getElem?_toArray, List.getElem?_cons_succ, List.getElem?_cons_zero] <;> rfl) (by rfl) (by rfl) ?_; go_big_quiet_step (fail); refine wpQuiet_nil ?_)
      refine wpV_e (by simp only [List.getElem?_toArray, List.getElem?_cons_succ, List.getElem?_cons_zero] <;> rfl) (by rfl) ?_
      go_wp2_with fail
      refine (CL1.out _).mono ?_
      rintro e t4 ⟨rfl, ft⟩
      have G5 := Lib.hid (Gr.trans G4.out ft)
      clear ft CL1
      go_wp2_with fail
      refine ⟨⟨⟨t4, G5.out⟩, rfl⟩, ?_⟩
      repeat (refine wpV_q (by simp only [List.getElem?_toArray, List.getElem?_cons_succ, List.getElem?_cons_zero] <;> rfl) (by rfl) (by rfl) ?_; go_big_quiet_step (fail); refine wpQuiet_nil ?_)
      refine wpV_e (by simp only [List.getElem?_toArray, List.getElem?_cons_succ, List.getElem?_cons_zero] <;> rfl) (by rfl) ?_
      go_wp2_with fail
      refine (CL2.out _).mono ?_
      rintro e t5 ⟨rfl, ft⟩
      have G6 := Lib.hid (Gr.trans G5.out ft)
      clear ft CL2
      go_wp2_with fail
      refine ⟨⟨⟨t5, G6.out⟩, rfl⟩, ?_⟩
      repeat (refine wpV_q (by simp only [List.getElem?_toArray, List.getElem?_cons_succ, List.getElem?_cons_zero] <;> rfl) (by rfl) (by rfl) ?_; go_big_quiet_step (fail); refine wpQuiet_nil ?_)
      refine wpV_done ?_
      have V8 := Lib.hid (V7.out.keep G6.out)
      have D8 := Lib.hid (D7.out.keep G6.out)
      have C8 := Lib.hid (blk_keep G6.out C7.out (fun h => h))
      have H8 := Lib.hid (H7.out.gr G6.out)
      clear u1 u2 z0 z1 z2 z3 z4 this V7 D7 C7 H7 B7 G0 G1 G2 G3 G4 G5 G6
      go_upto_region 22 with fail
      refine wp_region_lit ?_
      refine wpList_load_mid (by rfl) 29 _ (by rfl) g2 0 (by rfl) (Array.toList (v'.arr y')) _ (blk_range C8.out) Try.underlying29 rfl Try.infoView ?_
      go_wp2_with (refine wpList_storeW (vs := v'.arr y') V8.out.blk (by rfl) 29 _ _ (by rfl) (by rfl) (by rfl) rfl Try.infoView (by rw [← Array.all_toList]; rfl) ?_)
      intro w9 f9 b9
      have V9 : VarV W q w9 v' y' := ⟨b9, H8.out.keepA f9 AP6.out, AP6.out, fr_new V8.out.gr f9 hWq⟩
      have D9 := (D8.out.keepV f9 V8.out.blk).1
      go_wp2_with fail
      go_roundw
      case rel => exact ⟨i + 1, v', y', d', by go_num, by go_num, hlt, HEB, V9, D9, SEP6.out⟩
      case measure => simp [intOf]; omega
    · obtain rfl : i = N := by omega
      have hnil : v.act = [] := by
        have := EB.out.act
        cases hc : v.act with
        | nil => rfl
        | cons a r => rw [hc] at this; simp at this
      have CE := Lib.hid (fun w (h : VwAt w v y) (hd : DrawV w dp ds) => viewEvict_any v y dp ds w h hd SEP.out)
      rw [vEvict_nil v ds hnil] at CE
      unfold VEnd at CE
      obtain ⟨M, hM1, hM2, hM3⟩ : ∃ M : Int, min (i : Int) pp = M ∧ (if pp < (i : Int) then pp else (i : Int)) = M ∧ (v.pas.length : Int) = M := ⟨_, rfl, by split <;> omega, EB.out.pas⟩
      have HM3 := Lib.hid hM3
      clear hnil hM3 EB hi hlt
      simp only at CE
      have CLP := Lib.hid (fun w => show Calls Try.prog 23 #[setV y.pa v.pas.length y.pc v.pm] w fun e w' => e = .returned (.int .i64 M) ∧ Gr w w' by rw [← HM3.out]; exact setLen_any y.pa v.pas.length y.pc v.pm w)
      clear HM3
      go_upto_region 24 with fail
      refine wp_region_lit ?_
      refine wpList_load_mid (by rfl) 29 _ (by rfl) q 0 (by rfl) (Array.toList (v.arr y)) _ (blk_range VK.out.blk) Try.underlying29 rfl Try.infoView ?_
      go_wp2_with fail
      refine (CE.out wr VK.out.at_ DK.out).mono ?_
      rintro e w6 ⟨y', rfl, h6, d6, f6, k6⟩
      have V6 := Lib.hid (VK.out.drawn DK.out SEP.out f6 HPW.out)
      have l6 := h6.act.le
      have l7 := h6.act.max
      have l8 := h6.pas.le
      have l9 := h6.pas.max
      clear f6 d6 h6 k6 VK DK CE SEP
      go_wp2_with (refine wpList_fresh (vs := v.arr y') hz1 hz2 Try.infoView (by rfl) (by rw [← Array.all_toList]; rfl) (by rfl) (by rfl) ?_)
      intro w7 f7 b7 l7'
      have V7 := Lib.hid (V6.out.keep f7)
      have y3 := (Bx.of_block V7.out.blk) 3 _ rfl
      have y4 := (Bx.of_block V7.out.blk) 4 _ rfl
      clear f7 b7 V6 l7'
      go_wp2_with fail
      refine (CLP.out _).mono ?_
      rintro e w8 ⟨rfl, f8⟩
      have F8 := Lib.hid (Gr.trans V7.out.gr f8)
      clear f8 CLP V7 y3 y4
      go_wp2_with fail
      go_ret
      exact ⟨rfl, F8.out⟩
end Go.Proofs.Ytdpnkikaciigoaa
