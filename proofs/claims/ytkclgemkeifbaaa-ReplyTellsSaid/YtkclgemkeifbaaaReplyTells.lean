/-
  ReplyTells: the walk.
-/
import Derived.Test.YtkclgemkeifbaaaReplyBuilds
import Derived.Test.YtkclgemkeifbaaaRepTail
import Derived.Test.YtkclgemkeifbaaaHeadE
namespace Go.Proofs.Ytkclgemkeifbaaa
open Go.RowKit Go.Proofs

theorem bldOut_bad (h : Hd) (asked : Bool) (name : List Lbl) (t c code : Int) (l : List RRec) (he : (bldOut h asked name t c code l).2.2 ≠ 0) : (bldOut h asked name t c code l).1 = [] := by
  unfold bldOut at he ⊢
  by_cases g1 : code < 0 ∨ 15 < code ∨ 15 < h.op
  · rw [if_pos g1]
  rw [if_neg g1] at he ⊢
  by_cases g2 : asked = false ∧ l ≠ []
  · rw [if_pos g2]
  rw [if_neg g2] at he ⊢
  by_cases g3 : quesCode asked name ≠ 0
  · rw [if_pos g3]
  rw [if_neg g3] at he ⊢
  cases hb : rbad l with
  | none => rw [hb] at he; simp at he
  | some r => rfl
theorem prsHd_bld (h : Hd) (asked : Bool) (code : Int) (n : Nat) (cut : Bool) : hdAsked (prsHd (bldHd h asked code n cut)) asked = { hdZero with id := h.id, op := h.op, des := h.des, c0 := if asked = true then 1 else 0 } := by
  cases asked <;> rfl

set_option maxHeartbeats 16000000 in
set_option maxRecDepth 100000 in
theorem replyTells_walk (x : LQ) (hx : x.Fits) (a : Option Addr) (cap : Nat) (b : Option Addr) (capl : Nat) (LP : List RowR) (W : World) (hn : SlA W a x.name.length cap (strVs x.name)) (hL : RowsAt W b capl LP) :
    Calls Try.prog 13 #[.agg (x.arr a cap), .slice b LP.length capl] W fun e w' => e = .returned (.bool true) ∧ Gr W w' := by
  obtain ⟨iq, hq1, hq2, hq3⟩ := info_two Try.zeroQuery
  obtain ⟨ir, hr1, hr2, hr3⟩ := info_two Try.zeroRefQ24
  have hle := hL.row.le
  have hmx := hL.row.max
  have hnl := hn.le
  have hnm := hn.max
  obtain ⟨w1, hw1⟩ : ∃ w1, w1 = W.alloc (.cells (x.arr a cap) 92) := ⟨_, rfl⟩
  have f1 : Gr W w1 := by rw [hw1]; exact (Fr.refl _ _).alloc _
  have X1 := Lib.hid (show w1.heap[W.heap.size]? = some (.cells (x.arr a cap) 92 (0, 0)) by rw [hw1, heap_alloc_if, if_pos rfl])
  have s1 : W.heap.size < w1.heap.size := by rw [hw1]; simp
  have F1 := Lib.hid f1
  have HW1 := Lib.hid hw1
  have HN := Lib.hid (hn.keep f1 (fun _ _ h => h))
  have HL := Lib.hid (hL.keep f1)
  have HX := Lib.hid hx
  have S0 := Lib.hid (fun w => speaks24_any w)
  have hcode := hx.code
  clear hw1 f1 hn hL hx
  go_enter Try.func13, Try.ntmps13
  go_upto_region 1 with fail
  rw [← HW1.out]
  clear HW1
  go_wp2_with fail
  refine (S0.out _).mono ?_
  rintro e w2 ⟨rfl, f2⟩
  have X2 := Lib.hid (show w2.heap[W.heap.size]? = some (.cells (x.arr a cap) 92 (0, 0)) by rw [f2.block _ (by omega) (fun h => h)]; exact X1.out)
  have F2 := Lib.hid (Gr.trans F1.out f2)
  have CB := Lib.hid (both24_any x HX.out a cap b capl LP w2 (HN.out.keep f2 (fun _ _ h => h)) (HL.out.keep f2))
  unfold BothEnd at CB
  have hfr := cutR_fits (l := LP.map (·.1)) (fun r hr => by obtain ⟨y, hy, rfl⟩ := List.mem_map.1 hr; exact HL.out.fits y hy)
  have HFR := Lib.hid hfr
  have s2 := f2.size
  clear f2 X1 F1 HN HL S0 hfr
  generalize cutR (LP.map (·.1)) = rs at *
  generalize cutM 130 x.name = nm at *
  go_upto_region 3 with fail
  refine wp_region_lit ?_
  refine wpList_load_mid (by rfl) 92 _ (by rfl) W.heap.size 0 (by rfl) (x.arr a cap).toList _ (blk_range X2.out) Try.underlying92 rfl Try.infoLQuery ?_
  go_wp2_with fail
  refine CB.out.mono ?_
  rintro e w3 ⟨f3, an, cn, L, a1, c1, a2, c2, ow, hmap, hb, rfl⟩
  have X3 := Lib.hid (show w3.heap[W.heap.size]? = some (.cells (x.arr a cap) 92 (0, 0)) by rw [f3.block _ (by omega) (fun h => h)]; exact X2.out)
  have F3 := Lib.hid (Gr.trans F2.out f3)
  have s3 := f3.size
  have OW := Lib.hid ow
  have HB := Lib.hid hb
  have hLf : ∀ y ∈ L, y.1.Fits := fun y hy => HFR.out y.1 (by rw [← hmap]; exact List.mem_map_of_mem hy)
  have HLF := Lib.hid hLf
  have HM := Lib.hid hmap
  clear f3 X2 F2 CB ow hb hLf hmap
  go_wp2_with (refine wpList_fresh2 (vs1 := qCells x.hd x.asked an nm.length cn x.t x.c) (vs2 := rqCells x.hd x.asked an nm.length cn x.t x.c) hq1 hq2 Try.infoQuery17 (by rfl) (by rw [← Array.all_toList]; rfl) hr1 hr2 Try.infoRefQ24 (by rfl) (by rw [← Array.all_toList]; rfl) (by rfl) (by rfl) (by rfl) (by rfl) ?_)
  intro w4 f4 b1 b2 l4
  have F4 := Lib.hid (Gr.trans F3.out f4)
  have X4 := Lib.hid (show w4.heap[W.heap.size]? = some (.cells (x.arr a cap) 92 (0, 0)) by rw [f4.block _ (by omega) (fun h => h)]; exact X3.out)
  obtain ⟨q, hq⟩ : ∃ q, q = w3.heap.size := ⟨_, rfl⟩
  rw [← hq] at b1 b2 l4 ⊢
  have hWq : W.heap.size < q := by omega
  clear hq
  have Q4 := Lib.hid b1
  have P4 := Lib.hid b2
  obtain ⟨O, hO⟩ : ∃ O, O = bldOut x.hd x.asked nm x.t x.c x.code rs := ⟨_, rfl⟩
  obtain ⟨an', cn', e1, sn, -⟩ := SlA.of_own (own_fr OW.out f4 (fun _ _ h => h))
  cases e1
  have HB4 := Lib.hid (HB.out.keep f4 (fun k h => h.elim))
  have C1 : Hid (Calls Try.prog 39 #[.agg (qCells x.hd x.asked an nm.length cn x.t x.c), .int .i64 x.code, .slice a1 L.length c1] w4 (BuildEnd O w4)) := Lib.hid (by
    rw [hO, ← HM.out]; exact build_any x.hd (x.hd_fits HX.out) x.asked an cn nm x.t x.c x.code a1 c1 L w4 sn HX.out.t HX.out.c hcode (HB4.out.at1 HLF.out))
  have C2 : Hid (∀ w, Gr w4 w → Calls Try.prog 40 #[.agg (rqCells x.hd x.asked an nm.length cn x.t x.c), .int .i64 x.code, .slice a2 L.length c2] w (RefBuildEnd O w)) := Lib.hid (fun w f => by
    rw [hO, ← HM.out]; exact refBuild24_any x.hd (x.hd_fits HX.out) x.asked an cn nm x.t x.c x.code a2 c2 L w (sn.keep f (fun _ _ h => h)) HX.out.t HX.out.c hcode ((HB4.out.at2 HLF.out).keep f))
  have hOl : O.1.length ≤ 512 := by rw [hO]; exact bldOut_le _ _ _ _ _ _ _
  have hOB := Lib.hid (fun (h : O.2.2 ≠ 0) => show O.1 = [] by rw [hO] at h ⊢; exact bldOut_bad _ _ _ _ _ _ _ h)
  have TOLD := Lib.hid (fun (h : O.2.2 = 0) => show Told x.hd x.asked nm x.t x.c x.code rs O.2.1 O.1 by rw [hO] at h ⊢; exact told_build x.hd (x.hd_fits HX.out) x.asked nm x.t x.c x.code rs HX.out.t HX.out.c HFR.out h)
  unfold BuildEnd at C1
  unfold RefBuildEnd at C2
  have y7 : w4.cell? ⟨W.heap.size, 7, none⟩ = some (.int .i64 x.code) := by rw [Lib.cell_of_heap X4.out]; rfl
  have hleL := (HB4.out.at1 HLF.out).row.le
  have hmxL := (HB4.out.at1 HLF.out).row.max
  have hleR := (HB4.out.at2 HLF.out).row.le
  have hmxR := (HB4.out.at2 HLF.out).row.max
  have hls := sn.le
  have hms := sn.max
  have SN := Lib.hid sn
  clear f4 b1 b2 hO sn HB OW HX F3 X3
  obtain ⟨O1, On, O2⟩ := O
  simp only at C1 C2 hOl hOB TOLD
  have zo := mk_size O1
  go_upto_region 4 with fail
  refine wp_region_lit ?_
  refine wpList_load_query Q4.out (by rfl) _ (by rfl) (by rfl) ?_
  go_wp2_with fail
  refine C1.out.mono ?_
  rintro e w5 ⟨rfl, f5⟩
  have F5 := Lib.hid (Gr.trans F4.out f5)
  have z7 := f5.cell y7 (fun h => h)
  have P5 := Lib.hid (show w5.heap[q + 1]? = some (.cells (rqCells x.hd x.asked an nm.length cn x.t x.c) 96 (0, 0)) by rw [f5.block _ (by omega) (fun h => h)]; exact P4.out)
  have Q5 := Lib.hid (show w5.heap[q]? = some (.cells (qCells x.hd x.asked an nm.length cn x.t x.c) 67 (0, 0)) by rw [f5.block _ (by omega) (fun h => h)]; exact Q4.out)
  have C3 := Lib.hid (C2.out w5 f5)
  have G5 := Lib.hid f5
  have s5 := f5.size
  have X5 := Lib.hid (show w5.heap[W.heap.size]? = some (.cells (x.arr a cap) 92 (0, 0)) by rw [f5.block _ (by omega) (fun h => h)]; exact X4.out)
  clear f5 C1 C2 Q4 P4 y7 F4 X4
  by_cases he0 : O2 = 0
  · subst he0
    have TD := Lib.hid (TOLD.out rfl)
    clear hOB TOLD
    go_upto_region 7 with fail
    refine wp_region_lit ?_
    refine wpList_load_mid (by rfl) 96 _ (by rfl) (q + 1) 0 (by rfl) (rqCells x.hd x.asked an nm.length cn x.t x.c).toList _ (blk_range P5.out) Try.underlying96 rfl Try.infoRefQ24 ?_
    go_wp2_with fail
    refine C3.out.mono ?_
    rintro e w6 ⟨rfl, f6⟩
    have hO512 : (O1.length : Int) ≤ 512 := by omega
    have F6 := Lib.hid (Gr.trans F5.out f6)
    have G6 := Lib.hid (Gr.trans G5.out f6)
    have Q6 := Lib.hid (show w6.heap[q]? = some (.cells (qCells x.hd x.asked an nm.length cn x.t x.c) 67 (0, 0)) by rw [f6.block _ (by omega) (fun h => h)]; exact Q5.out)
    have X6 := Lib.hid (show w6.heap[W.heap.size]? = some (.cells (x.arr a cap) 92 (0, 0)) by rw [f6.block _ (by omega) (fun h => h)]; exact X5.out)
    have s6 := f6.size
    have CP := Lib.hid (parse_any O1 w6 (by omega))
    have hpe : ParseEnd O1 w6 = prsEnd O1 w6 := by
      have l12 := TD.out.len
      funext e w'
      unfold ParseEnd
      rw [if_neg (show ¬ O1.length < 12 by omega), if_neg (show ¬ (hdRead O1).resp = false by rw [TD.out.hd]; simp [bldHd]), if_pos TD.out.ok]
    rw [hpe] at CP
    clear hpe
    have CPE := Lib.hid (show ∀ e w', prsEnd O1 w6 e w' ↔ prsE ⟨x.asked, if x.asked = true then nm else [], if x.asked = true then x.t else 0, if x.asked = true then x.c else 0, (rs.take On).map RRec.plain, 0⟩ (bldHd x.hd x.asked x.code On (decide (On < rs.length))) w6 e w' by intro e w'; unfold prsEnd; rw [TD.out.out, TD.out.hd])
    clear f6 C3 z7 P5 F5 Q5 G5
    go_wp2_with fail
    refine CP.out.mono ?_
    intro e w7 hp
    have hp2 := (CPE.out e w7).1 hp
    unfold prsE at hp2
    clear hp CPE CP
    obtain ⟨f7, pa, pcap, PL, pv, pow, pmap, prow, rfl⟩ := hp2
    simp only at pow pmap ⊢
    rw [prsHd_bld]
    have hRL : L.length = rs.length := by rw [← HM.out, List.length_map]
    have hPL : PL.length = On := by
      have e := congrArg List.length pmap
      rw [List.length_map, List.length_map, List.length_take] at e
      have := TD.out.le
      omega
    have hOnL : On ≤ L.length := by have := TD.out.le; omega
    rw [← hRL]
    obtain ⟨pr, prc, hpv⟩ := prow.slice
    subst hpv
    rw [hPL] at prow ⊢
    obtain ⟨pan, pcn, hpe, psn, -⟩ := SlA.of_own pow
    cases hpe
    have PSN := Lib.hid psn
    have PMAP := Lib.hid pmap
    have PROW := Lib.hid prow
    have F7 := Lib.hid (Gr.trans F6.out f7)
    have G7 := Lib.hid (Gr.trans G6.out f7)
    have Q7 := Lib.hid (show w7.heap[q]? = some (.cells (qCells x.hd x.asked an nm.length cn x.t x.c) 67 (0, 0)) by rw [f7.block _ (by omega) (fun h => h)]; exact Q6.out)
    have X7 := Lib.hid (show w7.heap[W.heap.size]? = some (.cells (x.arr a cap) 92 (0, 0)) by rw [f7.block _ (by omega) (fun h => h)]; exact X6.out)
    have s7 := f7.size
    clear f7 pow pmap prow psn Q6 X6 F6 G6
    generalize hpn : (if x.asked = true then nm else []) = pn at *
    generalize hpt : (if x.asked = true then x.t else 0) = pt at *
    generalize hpc : (if x.asked = true then x.c else 0) = pc at *
    have HPN := Lib.hid hpn
    have HPT := Lib.hid hpt
    have HPC := Lib.hid hpc
    clear hpn hpt hpc
    simp only [hdZero]
    obtain ⟨ia, hia⟩ : ∃ ia : Int, ia = if x.asked = true then 1 else 0 := ⟨_, rfl⟩
    rw [← hia]
    have HIA := Lib.hid hia
    clear hia
    go_wp2_with (refine wpList_fresh (vs := #[.int .u16 x.hd.id, .bool false, .int .u8 x.hd.op, .bool false, .bool false, .bool x.hd.des, .bool false, .int .u8 0, .int .u8 0, .int .u16 ia, .int .u16 0, .int .u16 0, .int .u16 0, .bool x.asked, .slice pa pn.length pcap, .int .u16 pt, .int .u16 pc]) hq1 hq2 Try.infoQuery17 (by rfl) (by rw [← Array.all_toList]; rfl) (by rfl) (by rfl) ?_)
    intro w8 f8 b8 l8
    have F8 := Lib.hid (Gr.trans F7.out f8)
    have G8 := Lib.hid (Gr.trans G7.out f8)
    have Q8 := Lib.hid (show Bx w8 q (qCells x.hd x.asked an nm.length cn x.t x.c).toList from Bx.of_block (by rw [f8.block _ (by omega) (fun h => h)]; exact Q7.out))
    have PSN8 := Lib.hid (PSN.out.keep f8 (fun _ _ h => h))
    have PROW8 := Lib.hid (PROW.out.keep f8 (fun k h => h.elim))
    have y7 : w8.cell? ⟨W.heap.size, 7, none⟩ = some (.int .i64 x.code) := by rw [f8.cell (show w7.cell? ⟨W.heap.size, 7, none⟩ = some (.int .i64 x.code) by rw [Lib.cell_of_heap X7.out]; rfl) (fun h => h)]
    obtain ⟨g, hg⟩ : ∃ g, g = w7.heap.size := ⟨_, rfl⟩
    rw [← hg] at b8 l8 ⊢
    have hqg : q < g := by omega
    have G8X := Lib.hid (show Bx w8 g _ from Bx.of_block b8)
    have q0 := Q8.out 0 _ rfl
    have q2 := Q8.out 2 _ rfl
    have q5 := Q8.out 5 _ rfl
    have q13 := Q8.out 13 _ rfl
    have q14 := Q8.out 14 _ rfl
    have q15 := Q8.out 15 _ rfl
    have q16 := Q8.out 16 _ rfl
    have g0 := G8X.out 0 _ rfl
    have g2 := G8X.out 2 _ rfl
    have g5 := G8X.out 5 _ rfl
    have g13 := G8X.out 13 _ rfl
    have g14 := G8X.out 14 _ rfl
    have g15 := G8X.out 15 _ rfl
    have g16 := G8X.out 16 _ rfl
    obtain ⟨cb, hcb⟩ : ∃ cb, cb = decide (On < L.length) := ⟨_, rfl⟩
    have hlt : decide ((On : Int) < (L.length : Int)) = cb := by rw [hcb]; simp
    rw [← hcb]
    have HCB := Lib.hid hcb
    clear hcb f8 b8 hg F7 G7 Q7 X7 PSN PROW
    have heq : ∀ (w : World) (a0 a1 a2 a3 : Int), (Op.equalIn 10000 62 (.agg #[.int .u16 a0, .int .u16 a1, .int .u16 a2, .int .u16 a3]) (.agg #[.int .u16 a0, .int .u16 a1, .int .u16 a2, .int .u16 a3])).run Try.prog w = .ok true w := fun w a0 a1 a2 a3 => by
      rw [eql_u16x4 w 9998]; simp
    have SN8 := Lib.hid (SN.out.keep G8.out (fun _ _ h => h))
    have g9 := G8X.out 9 _ rfl
    have g10 := G8X.out 10 _ rfl
    have g11 := G8X.out 11 _ rfl
    have g12 := G8X.out 12 _ rfl
    go_upto_region 11 with fail
    clear q0 q2 q5 g0 g2 g5 y7 hlt
    go_cut [147] from 117 to 147 (fun c wx => c = .bool false ∧ Gr w8 wx)
    case first =>
      by_cases hask : x.asked = false
      · rw [hask] at q13 g13
        clear hask
        go_wp2_with fail
        go_meet
        exact ⟨rfl, Fr.refl _ _⟩
      · have e1 := HPN.out
        have e2 := HPT.out
        have e3 := HPC.out
        have e4 := HIA.out
        replace hask : x.asked = true := by simpa using hask
        rw [if_pos hask] at e1 e2 e3 e4
        rw [hask] at q13 g13
        rw [← e1] at g14 PSN8
        rw [← e2] at g15
        rw [← e3] at g16
        rw [e4] at g9
        clear e1 e2 e3 e4 hask
        have CS := Lib.hid (refSame21_any pa pcap nm an cn nm w8 PSN8.out SN8.out)
        rw [show decide (nm = nm) = true from decide_eq_true rfl] at CS
        go_wp2_with fail
        refine CS.out.mono ?_
        rintro e w9 ⟨rfl, f9⟩
        replace g9 := f9.cell g9 (fun h => h)
        replace g10 := f9.cell g10 (fun h => h)
        replace g11 := f9.cell g11 (fun h => h)
        replace g12 := f9.cell g12 (fun h => h)
        go_wp2_with fail
        go_meet
        exact ⟨rfl, f9⟩
    case rest =>
      obtain ⟨rfl, gx⟩ := hcut
      have hL8 : RefRowsAt w8 a2 c2 L := (HB4.out.at2 HLF.out).keep G8.out
      have TR := Lib.hid (tells_row PROW8.out hPL hL8 (by rw [HM.out]; exact PMAP.out) hOnL (by rw [HM.out]; exact TD.out.codes))
      have NX := Lib.hid (show ∀ (h : On < L.length), ∃ (b2 o2 : Nat), a2 = some ⟨b2, o2, none⟩ ∧ w8.rangeAt b2 (o2 + On * 10) (L[On].1.refArr L[On].2.1 L[On].2.2).toList ∧ SlA w8 L[On].2.1 L[On].1.target.length L[On].2.2 (strVs L[On].1.target) ∧ L[On].1.Fits ∧ L[On].1.code = 0 ∧ 512 < O1.length + L[On].1.enc.length from by
        intro h
        obtain ⟨b2, o2, e2, hr2⟩ := hL8.at On h
        refine ⟨b2, o2, e2, hr2, hL8.tgt _ (List.getElem_mem h), hL8.fits _ (List.getElem_mem h), TD.out.codes _ (by rw [← HM.out]; exact List.mem_map_of_mem (List.getElem_mem h)), TD.out.next _ (by rw [← HM.out, List.getElem?_map, List.getElem?_eq_getElem h]; rfl)⟩)
      have GX := Lib.hid gx
      have hcl : cb = decide (On < L.length) := HCB.out
      have hm8 := hL8.row.le
      have hmx8 := hL8.row.max
      have hm9 : On ≤ prc := by obtain ⟨ar, cr, er, hs, -⟩ := SlA.of_own PROW8.out.row; cases er; have := hs.le; omega
      obtain ⟨i5, hir1, hir3⟩ : ∃ i, Try.prog.info? 110 = some i ∧ i.size = 10 := by
        obtain ⟨i, hi, hs⟩ := Option.map_eq_some_iff.1 Try.infoRRec
        exact ⟨i, hi, hs⟩
      obtain ⟨i6, hiq1, hiq3⟩ : ∃ i, Try.prog.info? 112 = some i ∧ i.size = 10 := by
        obtain ⟨i, hi, hs⟩ := Option.map_eq_some_iff.1 Try.infoRefRRec
        exact ⟨i, hi, hs⟩
      clear gx hL8
      go_upto_region 13 with fail
      refine wp_tail2 ?_ (by assumption) (by assumption)
      exact tells_tail hOl zo hRL hOnL F8 TR NX GX hm8 hmx8 hm9 hir1 hir3 hiq1 hiq3
  · have hO1 := hOB.out he0
    subst hO1
    clear TOLD hOB
    go_wp2_with fail
    go_ret
    exact ⟨rfl, F5.out⟩
end Go.Proofs.Ytkclgemkeifbaaa
