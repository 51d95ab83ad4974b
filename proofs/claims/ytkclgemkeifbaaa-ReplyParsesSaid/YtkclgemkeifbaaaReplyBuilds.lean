/-
  The walk of ReplyBuilds.
-/
import Derived.Test.YtkclgemkeifbaaaRepSpeak
namespace Go.Proofs.Ytkclgemkeifbaaa
open Go.RowKit Go.Proofs

/-- two new variables, stored one behind the other -/
theorem wpList_fresh2 {ops : Array Oper} {rest : List Oper} {d1 d2 d3 : Tmp} {ty1 ty2 t1 t2 t3 t4 t5 : TypeId} {p1 p2 p3 p4 p5 : String} {e1 e2 e3 e4 e5 : Array Edge} {x y z : Operand} {A : Act} {w : World} {Q : Exit → Act → World → Prop}
    {i1 i2 : TypeInfo} {zs1 zs2 vs1 vs2 : Array Value}
    (hi1 : Try.prog.info? ty1 = some i1) (hz1 : i1.zero = some (.agg zs1)) (hs1 : (Try.prog.info? ty1).map (·.size) = some vs1.size) (hsz1 : vs1.size = zs1.size) (ho1 : vs1.all (·.oneCell') = true)
    (hi2 : Try.prog.info? ty2 = some i2) (hz2 : i2.zero = some (.agg zs2)) (hs2 : (Try.prog.info? ty2).map (·.size) = some vs2.size) (hsz2 : vs2.size = zs2.size) (ho2 : vs2.all (·.oneCell') = true)
    (hd1 : ((A.put (some d1) (.pointer (some ⟨w.heap.size, 0, none⟩))).put (some d2) (.pointer (some ⟨w.heap.size + 1, 0, none⟩))).eval (.tmp d1) = .pointer (some ⟨w.heap.size, 0, none⟩))
    (hx : ((A.put (some d1) (.pointer (some ⟨w.heap.size, 0, none⟩))).put (some d2) (.pointer (some ⟨w.heap.size + 1, 0, none⟩))).eval x = .agg vs1)
    (hd2 : ((((A.put (some d1) (.pointer (some ⟨w.heap.size, 0, none⟩))).put (some d2) (.pointer (some ⟨w.heap.size + 1, 0, none⟩))).put none undef).put (some d3) (((((A.put (some d1) (.pointer (some ⟨w.heap.size, 0, none⟩))).put (some d2) (.pointer (some ⟨w.heap.size + 1, 0, none⟩))).put none undef)).eval y)).eval (.tmp d2) = .pointer (some ⟨w.heap.size + 1, 0, none⟩))
    (hz : ((((A.put (some d1) (.pointer (some ⟨w.heap.size, 0, none⟩))).put (some d2) (.pointer (some ⟨w.heap.size + 1, 0, none⟩))).put none undef).put (some d3) (((((A.put (some d1) (.pointer (some ⟨w.heap.size, 0, none⟩))).put (some d2) (.pointer (some ⟨w.heap.size + 1, 0, none⟩))).put none undef)).eval y)).eval z = .agg vs2)
    (h : ∀ w3, Gr w w3 → w3.heap[w.heap.size]? = some (.cells vs1 ty1 (0, 0)) → w3.heap[w.heap.size + 1]? = some (.cells vs2 ty2 (0, 0)) → w.heap.size + 1 < w3.heap.size →
      wpList Try.prog ops Q rest (((((A.put (some d1) (.pointer (some ⟨w.heap.size, 0, none⟩))).put (some d2) (.pointer (some ⟨w.heap.size + 1, 0, none⟩))).put none undef).put (some d3) (((((A.put (some d1) (.pointer (some ⟨w.heap.size, 0, none⟩))).put (some d2) (.pointer (some ⟨w.heap.size + 1, 0, none⟩))).put none undef)).eval y)).put none undef) w3) :
    wpList Try.prog ops Q (⟨some d1, .alloc ty1, t1, p1, e1, none⟩ :: ⟨some d2, .alloc ty2, t2, p2, e2, none⟩ :: ⟨none, .store ty1 (.tmp d1) x, t3, p3, e3, none⟩ :: ⟨some d3, .assign y, t4, p4, e4, none⟩ :: ⟨none, .store ty2 (.tmp d2) z, t5, p5, e5, none⟩ :: rest) A w := by
  refine wpList_plain rfl fun K hK => ?_
  unfold Oper.wp
  rw [exec_alloc hi1 hz1]
  refine hK _ _ ?_
  clear hK
  refine wpList_plain rfl fun K hK => ?_
  unfold Oper.wp
  rw [exec_alloc hi2 hz2]
  refine hK _ _ ?_
  clear hK
  obtain ⟨w1, hw1⟩ : ∃ w1, w1 = (w.alloc (.cells zs1 ty1)).alloc (.cells zs2 ty2) := ⟨_, rfl⟩
  have hsz : (w.alloc (.cells zs1 ty1)).heap.size = w.heap.size + 1 := by simp
  rw [hsz, ← hw1]
  have f1 : Gr w w1 := by rw [hw1]; exact ((Fr.refl _ _).alloc _).alloc _
  have a1 : w1.heap[w.heap.size]? = some (.cells zs1 ty1 (0, 0)) := by rw [hw1, heap_alloc_if, if_neg (by simp), heap_alloc_if, if_pos rfl]
  have a2 : w1.heap[w.heap.size + 1]? = some (.cells zs2 ty2 (0, 0)) := by rw [hw1, heap_alloc_if, if_pos (by simp)]
  refine wpList_store_mid rfl ty1 (.tmp d1) x rfl w.heap.size 0 vs1 hd1 hx (blk_there a1 _ (by omega)) hs1 ho1 ?_
  obtain ⟨w2, hw2⟩ : ∃ w2, w2 = w1.setCells w.heap.size 0 vs1.toList := ⟨_, rfl⟩
  rw [← hw2]
  have f2 : Fr (fun k => k = w.heap.size) w1 w2 := by rw [hw2]; exact fr_setCells _ _ _ _
  have b1 : w2.heap[w.heap.size]? = some (.cells vs1 ty1 (0, 0)) := by rw [hw2]; exact blk_all a1 _ hsz1
  have hs : w.heap.size + 1 < w1.heap.size := (Array.getElem?_eq_some_iff.1 a2).1
  have b2 : w2.heap[w.heap.size + 1]? = some (.cells zs2 ty2 (0, 0)) := by rw [f2.block _ hs (by omega)]; exact a2
  refine wpList_plain rfl fun K hK => ?_
  unfold Oper.wp
  have e : ∀ (ρ : Operand → Value), (execOp ρ ⟨some d3, .assign y, t4, p4, e4, none⟩).run Try.prog w2 = .ok (.value (ρ y)) w2 := fun ρ => by simp [go_sem]
  rw [e]
  refine hK _ _ ?_
  clear hK
  refine wpList_store_mid rfl ty2 (.tmp d2) z rfl (w.heap.size + 1) 0 vs2 hd2 hz (blk_there b2 _ (by omega)) hs2 ho2 ?_
  obtain ⟨w3, hw3⟩ : ∃ w3, w3 = w2.setCells (w.heap.size + 1) 0 vs2.toList := ⟨_, rfl⟩
  rw [← hw3]
  have f3 : Fr (fun k => k = w.heap.size + 1) w2 w3 := by rw [hw3]; exact fr_setCells _ _ _ _
  have c2 : w3.heap[w.heap.size + 1]? = some (.cells vs2 ty2 (0, 0)) := by rw [hw3]; exact blk_all b2 _ hsz2
  have hs' := f2.size
  have c1 : w3.heap[w.heap.size]? = some (.cells vs1 ty1 (0, 0)) := by rw [f3.block _ (by omega) (by omega)]; exact b1
  have f : Fr (fun k => w.heap.size ≤ k) w w3 := Fr.trans (Fr.trans (Fr.mono (T := fun k => w.heap.size ≤ k) f1 (fun _ _ h => h.elim)) f2 (fun k h => .inl (by omega))) f3 (fun k h => .inl (by omega))
  exact h w3 (gr_of_new f) c1 c2 (by have := f3.size; omega)

theorem bldOut_le (h : Hd) (asked : Bool) (name : List Lbl) (t c code : Int) (l : List RRec) : (bldOut h asked name t c code l).1.length ≤ 512 := by
  unfold bldOut
  split
  · simp
  · split
    · simp
    · split
      · simp
      · split
        · simp
        · have h1 := quesB_le asked name t c
          have h2 := (bldFold_le (quesB asked name t c) (by omega) l).1
          simp only [List.length_append, hd_bytes_length]
          omega
theorem cutR_fits {l : List RRec} (h : ∀ r ∈ l, r.Fits) : ∀ r ∈ cutR l, r.Fits := by
  intro r hr
  unfold cutR at hr
  obtain ⟨x, hx, rfl⟩ := List.mem_map.1 hr
  obtain ⟨h1, h2, h3, h4, h5, h6, h7, h8, h9⟩ := h x (List.mem_of_mem_take hx)
  exact ⟨h1, h2, h3, h4, h5, h6, h7, h8, h9⟩
theorem LQ.hd_fits (x : LQ) (h : x.Fits) : x.hd.Fits := by
  have a0 := h.id
  have a1 := h.op
  constructor <;> simp [LQ.hd, hdZero] <;> omega

set_option maxHeartbeats 16000000 in
set_option maxRecDepth 100000 in
theorem replyBuilds_walk (x : LQ) (hx : x.Fits) (a : Option Addr) (cap : Nat) (b : Option Addr) (capl : Nat) (LP : List RowR) (W : World) (hn : SlA W a x.name.length cap (strVs x.name)) (hL : RowsAt W b capl LP) :
    Calls Try.prog 12 #[.agg (x.arr a cap), .slice b LP.length capl] W fun e w' => e = .returned (.bool true) ∧ Gr W w' := by
  obtain ⟨iq, hq1, hq2, hq3⟩ := info_two Try.zeroQuery
  obtain ⟨ir, hr1, hr2, hr3⟩ := info_two Try.zeroRefQ24
  have hle := hL.row.le
  have hmx := hL.row.max
  have hnl := hn.le
  have hnm := hn.max
  obtain ⟨w1, hw1⟩ : ∃ w1, w1 = W.alloc (.cells (x.arr a cap) 92) := ⟨_, rfl⟩
  have f1 : Gr W w1 := by rw [hw1]; exact (Fr.refl _ _).alloc _
  have X1 := Lib.hid (show w1.heap[W.heap.size]? = some (.cells (x.arr a cap) 92 (0, 0)) by rw [hw1, heap_alloc_if, if_pos rfl])
  have s1 : W.heap.size < w1.heap.size := by rw [hw1]; simp
  have F1 := Lib.hid f1
  have HW1 := Lib.hid hw1
  have HN := Lib.hid (hn.keep f1 (fun _ _ h => h))
  have HL := Lib.hid (hL.keep f1)
  have HX := Lib.hid hx
  have S0 := Lib.hid (fun w => speaks24_any w)
  have hcode := hx.code
  clear hw1 f1 hn hL hx
  go_enter Try.func12, Try.ntmps12
  go_upto_region 1 with fail
  rw [← HW1.out]
  clear HW1
  go_wp2_with fail
  refine (S0.out _).mono ?_
  rintro e w2 ⟨rfl, f2⟩
  have X2 := Lib.hid (show w2.heap[W.heap.size]? = some (.cells (x.arr a cap) 92 (0, 0)) by rw [f2.block _ (by omega) (fun h => h)]; exact X1.out)
  have F2 := Lib.hid (Gr.trans F1.out f2)
  have CB := Lib.hid (both24_any x HX.out a cap b capl LP w2 (HN.out.keep f2 (fun _ _ h => h)) (HL.out.keep f2))
  unfold BothEnd at CB
  have hfr := cutR_fits (l := LP.map (·.1)) (fun r hr => by obtain ⟨y, hy, rfl⟩ := List.mem_map.1 hr; exact HL.out.fits y hy)
  have HFR := Lib.hid hfr
  have s2 := f2.size
  clear f2 X1 F1 HN HL S0 hfr
  generalize cutR (LP.map (·.1)) = rs at *
  generalize cutM 130 x.name = nm at *
  go_upto_region 3 with fail
  refine wp_region_lit ?_
  refine wpList_load_mid (by rfl) 92 _ (by rfl) W.heap.size 0 (by rfl) (x.arr a cap).toList _ (blk_range X2.out) Try.underlying92 rfl Try.infoLQuery ?_
  go_wp2_with fail
  refine CB.out.mono ?_
  rintro e w3 ⟨f3, an, cn, L, a1, c1, a2, c2, ow, hmap, hb, rfl⟩
  have X3 := Lib.hid (show w3.heap[W.heap.size]? = some (.cells (x.arr a cap) 92 (0, 0)) by rw [f3.block _ (by omega) (fun h => h)]; exact X2.out)
  have F3 := Lib.hid (Gr.trans F2.out f3)
  have s3 := f3.size
  have OW := Lib.hid ow
  have HB := Lib.hid hb
  have hLf : ∀ y ∈ L, y.1.Fits := fun y hy => HFR.out y.1 (by rw [← hmap]; exact List.mem_map_of_mem hy)
  have HLF := Lib.hid hLf
  have HM := Lib.hid hmap
  clear f3 X2 F2 CB ow hb hLf hmap
  go_wp2_with (refine wpList_fresh2 (vs1 := qCells x.hd x.asked an nm.length cn x.t x.c) (vs2 := rqCells x.hd x.asked an nm.length cn x.t x.c) hq1 hq2 Try.infoQuery17 (by rfl) (by rw [← Array.all_toList]; rfl) hr1 hr2 Try.infoRefQ24 (by rfl) (by rw [← Array.all_toList]; rfl) (by rfl) (by rfl) (by rfl) (by rfl) ?_)
  intro w4 f4 b1 b2 l4
  have F4 := Lib.hid (Gr.trans F3.out f4)
  have X4 := Lib.hid (show w4.heap[W.heap.size]? = some (.cells (x.arr a cap) 92 (0, 0)) by rw [f4.block _ (by omega) (fun h => h)]; exact X3.out)
  obtain ⟨q, hq⟩ : ∃ q, q = w3.heap.size := ⟨_, rfl⟩
  rw [← hq] at b1 b2 l4 ⊢
  clear hq
  have Q4 := Lib.hid b1
  have P4 := Lib.hid b2
  obtain ⟨O, hO⟩ : ∃ O, O = bldOut x.hd x.asked nm x.t x.c x.code rs := ⟨_, rfl⟩
  obtain ⟨an', cn', e1, sn, -⟩ := SlA.of_own (own_fr OW.out f4 (fun _ _ h => h))
  cases e1
  have HB4 := Lib.hid (HB.out.keep f4 (fun k h => h.elim))
  have C1 : Hid (Calls Try.prog 39 #[.agg (qCells x.hd x.asked an nm.length cn x.t x.c), .int .i64 x.code, .slice a1 L.length c1] w4 (BuildEnd O w4)) := Lib.hid (by
    rw [hO, ← HM.out]; exact build_any x.hd (x.hd_fits HX.out) x.asked an cn nm x.t x.c x.code a1 c1 L w4 sn HX.out.t HX.out.c hcode (HB4.out.at1 HLF.out))
  have C2 : Hid (∀ w, Gr w4 w → Calls Try.prog 40 #[.agg (rqCells x.hd x.asked an nm.length cn x.t x.c), .int .i64 x.code, .slice a2 L.length c2] w (RefBuildEnd O w)) := Lib.hid (fun w f => by
    rw [hO, ← HM.out]; exact refBuild24_any x.hd (x.hd_fits HX.out) x.asked an cn nm x.t x.c x.code a2 c2 L w (sn.keep f (fun _ _ h => h)) HX.out.t HX.out.c hcode ((HB4.out.at2 HLF.out).keep f))
  have hOl : O.1.length ≤ 512 := by rw [hO]; exact bldOut_le _ _ _ _ _ _ _
  unfold BuildEnd at C1
  unfold RefBuildEnd at C2
  have y7 : w4.cell? ⟨W.heap.size, 7, none⟩ = some (.int .i64 x.code) := by rw [Lib.cell_of_heap X4.out]; rfl
  have hleL := (HB4.out.at1 HLF.out).row.le
  have hmxL := (HB4.out.at1 HLF.out).row.max
  have hleR := (HB4.out.at2 HLF.out).row.le
  have hmxR := (HB4.out.at2 HLF.out).row.max
  have hls := sn.le
  have hms := sn.max
  clear f4 b1 b2 hO sn HB HB4 OW HM HLF HX HFR F3 X3
  obtain ⟨O1, On, O2⟩ := O
  simp only at C1 C2 hOl
  have zo := mk_size O1
  go_upto_region 4 with fail
  refine wp_region_lit ?_
  refine wpList_load_query Q4.out (by rfl) _ (by rfl) (by rfl) ?_
  go_wp2_with fail
  refine C1.out.mono ?_
  rintro e w5 ⟨rfl, f5⟩
  have F5 := Lib.hid (Gr.trans F4.out f5)
  have z7 := f5.cell y7 (fun h => h)
  have P5 := Lib.hid (show w5.heap[q + 1]? = some (.cells (rqCells x.hd x.asked an nm.length cn x.t x.c) 96 (0, 0)) by rw [f5.block _ (by omega) (fun h => h)]; exact P4.out)
  have C3 := Lib.hid (C2.out w5 f5)
  clear f5 C1 C2 Q4 P4 y7 F4 X4
  go_upto_region 5 with fail
  refine wp_region_lit ?_
  refine wpList_load_mid (by rfl) 96 _ (by rfl) (q + 1) 0 (by rfl) (rqCells x.hd x.asked an nm.length cn x.t x.c).toList _ (blk_range P5.out) Try.underlying96 rfl Try.infoRefQ24 ?_
  go_wp2_with fail
  refine C3.out.mono ?_
  rintro e w6 ⟨rfl, f6⟩
  have F6 := Lib.hid (Gr.trans F5.out f6)
  have hO512 : (O1.length : Int) ≤ 512 := by omega
  clear f6 C3 z7 P5 F5
  go_wp2_with fail
  go_ret
  exact ⟨rfl, F6.out⟩
end Go.Proofs.Ytkclgemkeifbaaa
