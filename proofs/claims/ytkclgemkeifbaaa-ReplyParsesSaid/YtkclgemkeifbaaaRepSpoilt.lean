/-
  The law's spoilt (printed by gen_spoilt.py).
-/
import Derived.Test.YtkclgemkeifbaaaReplyBuilds
import Derived.Lib.ConvBytes
namespace Go.Proofs.Ytkclgemkeifbaaa
open Go.RowKit Go.Proofs

/-- what a conversion of a text to bytes leaves -/
theorem bytes_list (w : World) (s : List UInt8) : ∃ (wB : World) (c : Nat), (convert 9 47 (.string ⟨s.toArray⟩)).run Try.prog w = .ok (.slice (some ⟨w.heap.size, 0, none⟩) s.length c) wB ∧ Gr w wB ∧ w.heap.size < wB.heap.size ∧
    (∀ j, j < s.length → wB.cell? ⟨w.heap.size, j, none⟩ = some (.int .u8 (s.getD j 0).toNat)) ∧ (∀ j, j < s.length → wB.frozen? ⟨w.heap.size, j, none⟩ = false) := by
  have hz := mk_size s
  have hr := Lib.run_convert_string_bytes w _ _ 5 ⟨s.toArray⟩ Try.underlying9 Try.underlying47 Try.underlying5
  rw [hz] at hr
  refine ⟨_, _, hr, ⟨rfl, rfl, rfl, by rw [Lib.bytesWorld_size]; omega, fun k hk _ => Lib.bytesWorld_at_old w _ ⟨s.toArray⟩ k hk⟩, by rw [Lib.bytesWorld_size]; omega, fun j hj => Lib.bytesWorld_cell w _ ⟨s.toArray⟩ j (by omega), fun j hj => ?_⟩
  have hs : (ByteArray.mk s.toArray).size ≤ (Lib.bytesCells w 5 ⟨s.toArray⟩).size := by unfold Lib.bytesCells; simp; rw [hz]; omega
  simp only [World.frozen?, Lib.bytesWorld_at_new]
  simp
  omega
theorem set_at (l : List UInt8) (k j : Nat) (v : UInt8) (hj : j < l.length) : (l.set k v).getD j 0 = if k = j then v else l.getD j 0 := by
  simp only [List.getD_eq_getElem?_getD, List.getElem?_set]
  by_cases h : k = j
  · subst h; simp [hj]
  · simp [h]
theorem bits_u8 (op : BinOp) (x y : Int) : ∃ v : UInt8, bits op .u8 x y = (v.toNat : Int) := by
  have h : ∃ z : Nat, bits op .u8 x y = IntKind.u8.wrap (z : Int) := ⟨_, rfl⟩
  obtain ⟨z, hz⟩ := h
  rw [IntKind.wrap_u8] at hz
  exact ⟨UInt8.ofNat z, by rw [hz, UInt8.toNat_ofNat']; omega⟩

def SpoiltEnd (W : World) (e : Ending) (w' : World) : Prop := ∃ l : List UInt8, e = .returned (.string ⟨l.toArray⟩) ∧ l.length ≤ 512 ∧ Gr W w'

theorem bldOut_12 (h : Hd) (asked : Bool) (name : List Lbl) (t c code : Int) (l : List RRec) (he : (bldOut h asked name t c code l).2.2 = 0) : 12 ≤ (bldOut h asked name t c code l).1.length := by
  unfold bldOut at he ⊢
  by_cases g1 : code < 0 ∨ 15 < code ∨ 15 < h.op
  · rw [if_pos g1] at he; simp at he
  rw [if_neg g1] at he ⊢
  by_cases g2 : asked = false ∧ l ≠ []
  · rw [if_pos g2] at he; simp at he
  rw [if_neg g2] at he ⊢
  by_cases g3 : quesCode asked name ≠ 0
  · rw [if_pos g3] at he; simp at he
  rw [if_neg g3] at he ⊢
  cases hb : rbad l with
  | none => simp only [List.length_append, hd_bytes_length]; omega
  | some r =>
    rw [hb] at he
    unfold rbad at hb
    have := List.find?_some hb
    simp at this
    exact absurd he this

set_option maxHeartbeats 16000000 in
set_option maxRecDepth 100000 in
theorem spoilt_any (x : LQ) (hx : x.Fits) (a : Option Addr) (cap : Nat) (b : Option Addr) (capl : Nat) (LP : List RowR) (p0 p1 : Int) (hp0 : 0 ≤ p0 ∧ p0 ≤ 255) (W : World) (hn : SlA W a x.name.length cap (strVs x.name)) (hL : RowsAt W b capl LP) :
    Calls Try.prog 45 #[.agg (x.arr a cap), .slice b LP.length capl, .agg #[.int .u8 p0, .int .u8 p1]] W (SpoiltEnd W) := by
  obtain ⟨iq, hq1, hq2, hq3⟩ := info_two Try.zeroQuery
  obtain ⟨ir, hr1, hr2, hr3⟩ := info_two Try.zeroRefQ24
  have hle := hL.row.le
  have hmx := hL.row.max
  have hnl := hn.le
  have hnm := hn.max
  obtain ⟨w1, hw1⟩ : ∃ w1, w1 = W.alloc (.cells (x.arr a cap) 92) := ⟨_, rfl⟩
  have f1 : Gr W w1 := by rw [hw1]; exact (Fr.refl _ _).alloc _
  have s1 : w1.heap.size = W.heap.size + 1 := by rw [hw1]; simp
  have b1 : w1.heap[W.heap.size]? = some (.cells (x.arr a cap) 92 (0, 0)) := by rw [hw1, heap_alloc_if, if_pos rfl]
  obtain ⟨w2, hw2⟩ : ∃ w2, w2 = w1.alloc (.cells #[.int .u8 p0, .int .u8 p1] 114) := ⟨_, rfl⟩
  have f2 : Gr w1 w2 := by rw [hw2]; exact (Fr.refl _ _).alloc _
  have b2 : w2.heap[W.heap.size + 1]? = some (.cells #[.int .u8 p0, .int .u8 p1] 114 (0, 0)) := by rw [hw2, heap_alloc_if, if_pos s1.symm]
  have s2 : w1.heap.size < w2.heap.size := by rw [hw2]; simp
  have X2 := Lib.hid (show w2.heap[W.heap.size]? = some (.cells (x.arr a cap) 92 (0, 0)) by rw [f2.block _ (by omega) (fun h => h)]; exact b1)
  have U2 := Lib.hid b2
  have F2 := Lib.hid (Gr.trans f1 f2)
  have HW1 := Lib.hid hw1
  have HW2 := Lib.hid hw2
  have S1 := Lib.hid s1
  have s2 : W.heap.size + 1 < w2.heap.size := by omega
  have HX := Lib.hid hx
  have CB := Lib.hid (both24_any x HX.out a cap b capl LP w2 (hn.keep F2.out (fun _ _ h => h)) (hL.keep F2.out))
  unfold BothEnd at CB
  have hfr := cutR_fits (l := LP.map (·.1)) (fun r hr => by obtain ⟨y, hy, rfl⟩ := List.mem_map.1 hr; exact hL.fits y hy)
  have HFR := Lib.hid hfr
  have hcode := hx.code
  clear hw1 hw2 f1 f2 b1 b2 hn hL hx s1 hfr
  unfold SpoiltEnd
  go_enter Try.func45, Try.ntmps45
  go_upto_region 1 with fail
  rw [← HW1.out, ← HW2.out]
  clear HW1 HW2 S1
  generalize cutR (LP.map (·.1)) = rs at *
  generalize cutM 130 x.name = nm at *
  refine wp_region_lit ?_
  refine wpList_load_mid (by rfl) 92 _ (by rfl) W.heap.size 0 (by rfl) (x.arr a cap).toList _ (blk_range X2.out) Try.underlying92 rfl Try.infoLQuery ?_
  go_wp2_with fail
  refine CB.out.mono ?_
  rintro e w3 ⟨f3, an, cn, L, a1, c1, a2, c2, ow, hmap, hb, rfl⟩
  have X3 := Lib.hid (show w3.heap[W.heap.size]? = some (.cells (x.arr a cap) 92 (0, 0)) by rw [f3.block _ (by omega) (fun h => h)]; exact X2.out)
  have F3 := Lib.hid (Gr.trans F2.out f3)
  have U3 := Lib.hid (show w3.heap[W.heap.size + 1]? = some (.cells #[.int .u8 p0, .int .u8 p1] 114 (0, 0)) by rw [f3.block _ (by omega) (fun h => h)]; exact U2.out)
  have s3 := f3.size
  have OW := Lib.hid ow
  have HB := Lib.hid hb
  have hLf : ∀ y ∈ L, y.1.Fits := fun y hy => HFR.out y.1 (by rw [← hmap]; exact List.mem_map_of_mem hy)
  have HLF := Lib.hid hLf
  have HM := Lib.hid hmap
  clear f3 X2 F2 CB ow hb hLf hmap
  go_wp2_with (refine wpList_fresh2 (vs1 := qCells x.hd x.asked an nm.length cn x.t x.c) (vs2 := rqCells x.hd x.asked an nm.length cn x.t x.c) hq1 hq2 Try.infoQuery17 (by rfl) (by rw [← Array.all_toList]; rfl) hr1 hr2 Try.infoRefQ24 (by rfl) (by rw [← Array.all_toList]; rfl) (by rfl) (by rfl) (by rfl) (by rfl) ?_)
  intro w4 f4 b1 b2 l4
  have F4 := Lib.hid (Gr.trans F3.out f4)
  have U4 := Lib.hid (show w4.heap[W.heap.size + 1]? = some (.cells #[.int .u8 p0, .int .u8 p1] 114 (0, 0)) by rw [f4.block _ (by omega) (fun h => h)]; exact U3.out)
  have X4 := Lib.hid (show w4.heap[W.heap.size]? = some (.cells (x.arr a cap) 92 (0, 0)) by rw [f4.block _ (by omega) (fun h => h)]; exact X3.out)
  obtain ⟨q, hq⟩ : ∃ q, q = w3.heap.size := ⟨_, rfl⟩
  rw [← hq] at b1 b2 l4 ⊢
  have hWq : W.heap.size + 1 < q := by omega
  clear hq
  have Q4 := Lib.hid b1
  have P4 := Lib.hid b2
  obtain ⟨O, hO⟩ : ∃ O, O = bldOut x.hd x.asked nm x.t x.c x.code rs := ⟨_, rfl⟩
  obtain ⟨an', cn', e1, sn, -⟩ := SlA.of_own (own_fr OW.out f4 (fun _ _ h => h))
  cases e1
  have HB4 := Lib.hid (HB.out.keep f4 (fun k h => h.elim))
  have C1 : Hid (Calls Try.prog 39 #[.agg (qCells x.hd x.asked an nm.length cn x.t x.c), .int .i64 x.code, .slice a1 L.length c1] w4 (BuildEnd O w4)) := Lib.hid (by
    rw [hO, ← HM.out]; exact build_any x.hd (x.hd_fits HX.out) x.asked an cn nm x.t x.c x.code a1 c1 L w4 sn HX.out.t HX.out.c hcode (HB4.out.at1 HLF.out))
  have C2 : Hid (∀ w, Gr w4 w → Calls Try.prog 40 #[.agg (rqCells x.hd x.asked an nm.length cn x.t x.c), .int .i64 x.code, .slice a2 L.length c2] w (RefBuildEnd O w)) := Lib.hid (fun w f => by
    rw [hO, ← HM.out]; exact refBuild24_any x.hd (x.hd_fits HX.out) x.asked an cn nm x.t x.c x.code a2 c2 L w (sn.keep f (fun _ _ h => h)) HX.out.t HX.out.c hcode ((HB4.out.at2 HLF.out).keep f))
  have hOl : O.1.length ≤ 512 := by rw [hO]; exact bldOut_le _ _ _ _ _ _ _
  have hO12 := Lib.hid (fun (h : O.2.2 = 0) => show 12 ≤ O.1.length by rw [hO] at h ⊢; exact bldOut_12 _ _ _ _ _ _ _ h)
  unfold BuildEnd at C1
  unfold RefBuildEnd at C2
  have y7 : w4.cell? ⟨W.heap.size, 7, none⟩ = some (.int .i64 x.code) := by rw [Lib.cell_of_heap X4.out]; rfl
  have hleL := (HB4.out.at1 HLF.out).row.le
  have hmxL := (HB4.out.at1 HLF.out).row.max
  have hleR := (HB4.out.at2 HLF.out).row.le
  have hmxR := (HB4.out.at2 HLF.out).row.max
  have hls := sn.le
  have hms := sn.max
  clear f4 b1 b2 hO sn HB HB4 OW HM HLF HX HFR F3 X3
  obtain ⟨O1, On, O2⟩ := O
  simp only at C1 C2 hOl
  have zo := mk_size O1
  go_upto_region 2 with fail
  refine wp_region_lit ?_
  refine wpList_load_query Q4.out (by rfl) _ (by rfl) (by rfl) ?_
  go_wp2_with fail
  refine C1.out.mono ?_
  rintro e w5 ⟨rfl, f5⟩
  have F5 := Lib.hid (Gr.trans F4.out f5)
  have U5 := Lib.hid (show w5.heap[W.heap.size + 1]? = some (.cells #[.int .u8 p0, .int .u8 p1] 114 (0, 0)) by rw [f5.block _ (by omega) (fun h => h)]; exact U4.out)
  clear f5 C1 C2 Q4 P4 y7 F4 X4 U4
  by_cases he : O2 = 0
  · subst he
    have h12 := hO12.out rfl
    clear hO12
    obtain ⟨wB, cB, hcv, fB, hBs, hBc, hBz⟩ := bytes_list w5 O1
    obtain ⟨k, hk, hkn⟩ : ∃ k : Nat, p0.tmod (O1.length : Int) = k ∧ k < O1.length := by
      have h1 := Int.tmod_lt_of_pos p0 (show (0 : Int) < O1.length by omega)
      have h2 := Int.tmod_nonneg (O1.length : Int) hp0.1
      exact ⟨(p0.tmod (O1.length : Int)).toNat, by omega, by omega⟩
    have bk := hBc k hkn
    have zk := hBz k hkn
    obtain ⟨v, hv⟩ := bits_u8 .xor ((O1.getD k 0).toNat : Int) p1
    have hb1 := (O1.getD k 0).toNat_lt
    generalize (O1.getD k 0).toNat = bo at bk hv hb1
    have HBC := Lib.hid hBc
    have FB := Lib.hid (Gr.trans F5.out fB)
    have d0 : wB.cell? ⟨W.heap.size + 1, 0, none⟩ = some (.int .u8 p0) := fB.cell (by rw [Lib.cell_of_heap U5.out]; rfl) (fun h => h)
    have d1 : wB.cell? ⟨W.heap.size + 1, 1, none⟩ = some (.int .u8 p1) := fB.cell (by rw [Lib.cell_of_heap U5.out]; rfl) (fun h => h)
    obtain ⟨g, hg⟩ : ∃ g, g = w5.heap.size := ⟨_, rfl⟩
    rw [← hg] at hcv hBs bk zk HBC
    have hWg : W.heap.size ≤ g := by rw [hg]; exact F5.out.size
    have hwg : W.heap.size + 1 ≠ g := by have := (Array.getElem?_eq_some_iff.1 U5.out).1; omega
    clear hg fB hBz hBc U5
    go_upto_region 6 with fail
    clear hcv
    haveI : Nonempty (WC (Gr wB)) := ⟨⟨wB, Fr.refl _ _⟩⟩
    have y0 : ∀ z : WC (Gr wB), z.val.cell? ⟨W.heap.size + 1, 0, none⟩ = some (.int .u8 p0) := fun z => z.ok.cell d0 (fun h => h)
    have y1 : ∀ z : WC (Gr wB), z.val.cell? ⟨W.heap.size + 1, 1, none⟩ = some (.int .u8 p1) := fun z => z.ok.cell d1 (fun h => h)
    have y2 : ∀ z : WC (Gr wB), z.val.cell? ⟨g, k, none⟩ = some (.int .u8 bo) := fun z => z.ok.cell bk (fun h => h)
    have hkz : (k : Int) < (O1.length : Int) := by omega
    refine wp_region_last 13 [] [] (fun w' => ∃ z : WC (Gr wB), w' = z.val) (by kernel_rfl) (by kernel_rfl) (fun c a w d v h => by cases d <;> exact h) (fun c a w d v h => by cases d <;> exact h) ⟨⟨wB.drew, (Fr.refl _ _).drew⟩, rfl⟩ ?_
    simp only [List.take]
    repeat (refine wpU_q (by rfl) (by rfl) ?_; go_big_quiet_step (fail); refine wpQuiet_nil ?_)
    refine wpU_nil ?_
    simp only [lastQ, List.drop]
    obtain ⟨wD, hwD⟩ : ∃ wD, wD = wB.drew := ⟨_, rfl⟩
    rw [← hwD]
    have fD : Gr wB wD := by rw [hwD]; exact (Fr.refl _ _).drew
    have ck := fD.cell bk (fun h => h)
    have ckz : wD.frozen? ⟨g, k, none⟩ = false := (fD.frozen bk (fun h => h)).trans zk
    have FD := Lib.hid (Gr.trans FB.out fD)
    have HBD := Lib.hid (show ∀ j, j < O1.length → wD.cell? ⟨g, j, none⟩ = some (.int .u8 (O1.getD j 0).toNat) from fun j hj => fD.cell (HBC.out j hj) (fun h => h))
    clear hwD fD y0 y1 y2 this bk zk d0 d1 FB HBC
    go_upto_region 7 with fail
    obtain ⟨wC, hwC⟩ : ∃ wC, wC = World.setCell wD ⟨g, k, none⟩ (.int .u8 v.toNat) := ⟨_, rfl⟩
    rw [← hwC]
    have fC : Fr (fun q => q = g) wD wC := by rw [hwC]; exact (Fr.refl (fun q => q = g) wD).setCell (p := ⟨g, k, none⟩) (.inl rfl) _
    have hcC : ∀ j, j < O1.length → wC.cell? ⟨g, j, none⟩ = some (.int .u8 (((O1.set k v).getD j 0).toNat : Int)) := by
      intro j hj
      rw [set_at _ _ _ _ hj]
      by_cases hkj : k = j
      · subst hkj
        rw [if_pos rfl, hwC]; exact World.cell?_setCell_same _ _ _ ck
      · rw [if_neg hkj, hwC, ← HBD.out j hj]
        apply World.cell?_setCell_other
        intro h; cases h; exact hkj rfl
    have FC := Lib.hid (show Gr W wC from Fr.trans FD.out fC (fun q hq => .inr (by subst hq; exact hWg)))
    obtain ⟨l, hl⟩ : ∃ l, l = O1.set k v := ⟨_, rfl⟩
    have hll : l.length = O1.length := by rw [hl, List.length_set]
    rw [← hl] at hcC
    have hc1 : (convert 47 9 (.slice (some ⟨g, 0, none⟩) O1.length cB)).run Try.prog wC = .ok (.string ⟨l.toArray⟩) wC := by
      rw [← hll]
      exact run_convert_bytes_back wC _ _ 5 _ cB l Try.underlying47 Try.underlying5 Try.underlying9 (fun j hj => by
        rw [Addr.add_lit, Nat.zero_add, hcC j (by omega)]
        congr 2
        rw [List.getD_eq_getElem?_getD, List.getElem?_eq_getElem hj]; rfl)
    clear hcC hwC fC HBD FD ck ckz hl hv
    go_wp2_with fail
    go_ret
    exact ⟨l, rfl, by omega, FC.out⟩
  · clear hO12
    go_wp2_with fail
    go_ret
    exact ⟨[], rfl, by simp, F5.out⟩
end Go.Proofs.Ytkclgemkeifbaaa
