/-
  The walk of HandPairs (printed by gen_hpairs.py).
-/
import Derived.Test.YtelepohdfcjnfaaHpRound
import Derived.Deep.CutRange
import Derived.Deep.CutBlock
namespace Go.Proofs.Ytelepohdfcjnfaa
open Go.RowKit Go.Proofs

set_option maxHeartbeats 16000000 in
set_option maxRecDepth 100000 in
theorem handPairs_walk (s0 : Int) (a1 : Option Addr) (c1 : Nat) (L : List LCh) (a2 : Option Addr) (c2 : Nat) (lc : List Int) (W : World) (h1 : SlA W a1 L.length c1 (L.flatMap LCh.cells))
    (hc : SlA W a2 lc.length c2 (lc.map (Value.int .u32))) (hcr : ∀ x ∈ lc, 0 ≤ x ∧ x < 4294967296) (hcb : lc.length * 4 ≤ 140737488355328) (hlo : ∀ x ∈ L, x.Ok) :
    Calls Try.prog 3 #[.int .u8 s0, .slice a1 L.length c1, .slice a2 lc.length c2] W fun e w' => e = .returned (.bool true) ∧ Gr W w' := by
  obtain ⟨iz, hz1, hz2, hzs⟩ := info_pair Try.zeroHands4
  obtain ⟨iy, hy1, hy2, hys⟩ := info_pair Try.zeroWays4
  obtain ⟨ix, hx1, hx2, hxs⟩ := info_pair Try.zeroLHChoice
  have HL := Lib.hid h1
  have HLO := Lib.hid hlo
  have HC := Lib.hid hc
  have HCR := Lib.hid hcr
  have S0 := Lib.hid (speaks11_any W)
  have e1 := h1.le
  have e2 := h1.max
  have e3 := hc.le
  have e4 := hc.max
  clear h1 hc hcr hlo
  go_enter Try.func3, Try.ntmps3
  go_upto_region 1 with fail
  go_wp2_with fail
  refine S0.out.mono ?_
  rintro e w1 ⟨rfl, f1⟩
  have F1 := Lib.hid f1
  clear f1 S0
  obtain ⟨r0, hr0, hr1, hr2⟩ := u8_and3 s0
  obtain ⟨hh, hhd⟩ : ∃ hh : Nat → Hd, hh = fun i : Nat => hNew ((i : Int) + 1) (1 + r0) 3 := ⟨_, rfl⟩
  obtain ⟨w2, hw2⟩ : ∃ w2, w2 = w1.alloc (.cells #[.int .i64 0, .slice none 0 0, .int .i64 0, .slice none 0 0, .int .i64 0, .slice none 0 0, .int .i64 0, .int .i64 0, .slice none 0 0, .int .i64 0, .slice none 0 0, .int .i64 0, .slice none 0 0, .int .i64 0, .int .i64 0, .slice none 0 0, .int .i64 0, .slice none 0 0, .int .i64 0, .slice none 0 0, .int .i64 0, .int .i64 0, .slice none 0 0, .int .i64 0, .slice none 0 0, .int .i64 0, .slice none 0 0, .int .i64 0] 32) := ⟨_, rfl⟩
  obtain ⟨q7, hq7⟩ : ∃ q, q = w1.heap.size := ⟨_, rfl⟩
  have F2 := Lib.hid (show Gr W w2 by rw [hw2]; exact F1.out.alloc _)
  have B2 := Lib.hid (show w2.heap[q7]? = some (.cells (hsPart hh 0) 32 (0, 0)) by rw [hw2, hq7, heap_alloc_if, if_pos rfl]; rfl)
  have HWQ := Lib.hid (show W.heap.size ≤ q7 by rw [hq7]; exact F1.out.size)
  have HW2 := Lib.hid hw2
  have HQ7 := Lib.hid hq7
  have HHD := Lib.hid hhd
  have CN := Lib.hid (fun (k : Nat) w => show Calls Try.prog 9 #[.int .i64 ((k : Int) + 1), .int .i64 (1 + r0), .int .i64 3] w fun e w' => e = .returned (.agg ((hh k).arr hdNone)) ∧ Gr w w' by rw [hhd]; exact handNew_any ((k : Int) + 1) (1 + r0) 3 w)
  clear hw2 hq7 hhd
  go_wp2_with fail
  rw [← HW2.out, ← HQ7.out]
  clear HW2 HQ7 F1
  go_loopw [8] (fun iv wr => ∃ k : Nat, iv = .int .i64 k ∧ k ≤ 4 ∧ Gr W wr ∧ wr.heap[q7]? = some (.cells (hsPart hh k) 32 (0, 0))) (fun iv _ => 4 - (intOf iv).toNat)
  case atStart => exact ⟨0, rfl, by decide, F2.out, B2.out⟩
  case round =>
    obtain ⟨k, rfl, hk, fr, br⟩ := hrel
    have FR := Lib.hid fr
    have BR := Lib.hid br
    clear fr br
    by_cases hk4 : k < 4
    · have C := Lib.hid (CN.out k wr)
      go_wp2_with fail
      refine C.out.mono ?_
      rintro e w3 ⟨rfl, f3⟩
      have F3 := Lib.hid (Gr.trans FR.out f3)
      have B3 := Lib.hid (blk_keep f3 BR.out (fun h => h))
      have hsz := hsPart_size hh hk
      clear f3 BR C
      go_wp2_with (refine wpList_store_mid (by rfl) 31 _ _ (by rfl) q7 (k * 7) ((hh k).arr hdNone) (by rfl) (by rfl) (there_at B3.out _ _ (by rw [hsz]; show k * 7 + 7 ≤ 28; omega)) Try.infoHand (by rw [← Array.all_toList]; rfl) ?_; obtain ⟨w4, hw4⟩ : ∃ w4, w4 = w3.setCells q7 (k * 7) ((hh k).arr hdNone).toList := ⟨_, rfl⟩; rw [← hw4]; have F4 := Lib.hid (show Gr W w4 by rw [hw4]; exact fr_new F3.out (fr_setCells _ _ _ _) HWQ.out); have B4 := Lib.hid (show w4.heap[q7]? = some (.cells (hsPart hh (k + 1)) 32 (0, 0)) by rw [hw4, ← hsPart_put hh hk4]; exact blk_put B3.out (by rw [hsz]; show k * 7 + 7 ≤ 28; omega)); clear hw4)
      go_roundw
      case rel => exact ⟨k + 1, by go_num, hk4, F4.out, B4.out⟩
      case measure => simp [intOf]; omega
    · obtain rfl : k = 4 := by omega
      have CD := Lib.hid (new_any a2 c2 lc wr (HC.out.keep FR.out (fun _ _ h => h)) hcb HCR.out)
      have h7 := Lib.hid (show q7 < wr.heap.size from lt_heap BR.out)
      go_wp2_with fail
      refine CD.out.mono ?_
      rintro e Wb ⟨d, rfl, hd3, hd4, bl4⟩
      obtain ⟨dp, hdp⟩ : ∃ dp, dp = Value.pointer (some ⟨d, 0, none⟩) := ⟨_, rfl⟩
      have FB := Lib.hid (Gr.trans FR.out (Gr.of_below bl4))
      have BB := Lib.hid (show Wb.heap[q7]? = some (.cells (hsArr hh (fun _ => hdNone)) 32 (0, 0)) from blk_keep (Gr.of_below bl4) BR.out (fun h => h))
      have HDD := Lib.hid (show ∃ d, dp = Value.pointer (some ⟨d, 0, none⟩) from ⟨d, hdp⟩)
      have HPW := Lib.hid (show ∀ k, pblk dp k → W.heap.size ≤ k ∧ k ≠ q7 from fun k hk => by
        rw [hdp] at hk
        unfold pblk at hk
        cases hk
        have h1 := h7.out
        have h2 := FR.out.size
        constructor <;> omega)
      have hrr : ∀ r ∈ rowsN hh (fun _ => hdNone), r = ⟨none, 0, 0, []⟩ := by
        intro r hr
        rw [HHD.out] at hr
        simpa [rowsN, hNew, hdNone, vwNone] using hr
      have ST0 := Lib.hid (show Sta Wb (fun k => k ≠ q7) dp lc [] [] (rowsN hh (fun _ => hdNone)) Wb from (Sta.initD (.inr ⟨d, hdp, hd4⟩) (by
        intro r hr
        rw [hrr r hr]
        exact ⟨SlA.nil Wb, fun h => absurd rfl h⟩)).reO (fun r hr => by rw [hrr r hr]))
      rw [← hdp]
      have HB7 := Lib.hid (show q7 < Wb.heap.size from lt_heap BB.out)
      obtain ⟨w5, hw5⟩ : ∃ w5, w5 = Wb.alloc (.cells #[.slice none 0 0, .slice none 0 0, .slice none 0 0, .slice none 0 0, .slice none 0 0, .slice none 0 0, .slice none 0 0, .slice none 0 0, .slice none 0 0, .slice none 0 0, .slice none 0 0, .slice none 0 0, .slice none 0 0, .slice none 0 0, .slice none 0 0, .slice none 0 0] 38) := ⟨_, rfl⟩
      obtain ⟨q10, hq10⟩ : ∃ q, q = Wb.heap.size := ⟨_, rfl⟩
      have ST1 := Lib.hid (show HpSt W q7 q10 dp (2 * 0) w5 from by
        refine ⟨Wb, ⟨hh, fun _ _ => []⟩, fun _ => hdNone, fun _ => .slice none 0 0, lc, ?_, fun _ _ => Nat.zero_le _, FB.out, HB7.out, ?_, ?_⟩
        · rw [HHD.out]
          exact NInv.start (1 + r0) 3 (by omega)
        · rw [hw5, heap_alloc_if, if_neg (by have := HB7.out; omega)]
          exact BB.out
        · rw [hw5]
          exact (ST0.out.box _ _ hq10).nils16)
      have HW5 := Lib.hid hw5
      have HQ10 := Lib.hid hq10
      clear hd3 hd4 bl4 hdp hrr CD BR FR F2 B2 CN hw5 hq10 ST0 BB HHD h7 hr0 hr1 hr2
      go_wp2_with fail
      rw [← HW5.out, ← HQ10.out]
      clear HW5 HQ10
      generalize wr = wr0
      go_loopw [11] (fun iv wr => ∃ k : Nat, iv = .int .i64 k ∧ k ≤ 400 ∧ HpSt W q7 q10 dp (2 * k) wr) (fun iv _ => 400 - (intOf iv).toNat)
      case atStart => exact ⟨0, rfl, by decide, ST1.out⟩
      case round =>
        obtain ⟨k, rfl, hk, hst⟩ := hrel
        have HST := Lib.hid hst
        clear hst ST1 FB HB7
        by_cases hk4 : k < 400
        · obtain ⟨Wb', n, x, v, ds, hn, hln, fb, h7, b7, hst⟩ := HST.out
          have HN := Lib.hid hn
          have HLN := Lib.hid hln
          have FB := Lib.hid fb
          have H7 := Lib.hid h7
          clear HST hn hln fb h7
          go_wp2_with (refine wpList_fresh (vs := (⟨2, 0, 0, false⟩ : LCh).arr) hx1 hx2 Try.infoLHChoice (by rfl) (by rw [← Array.all_toList]; rfl) (by rfl) (by rfl) ?_)
          intro w3 f3 b3 g3
          have ST2 := Lib.hid (hst.var f3 b3 (Nat.le_refl _))
          have B2 := Lib.hid (blk_keep f3 b7 (fun h => h))
          obtain ⟨q12, hq12⟩ : ∃ q, q = wr.heap.size := ⟨_, rfl⟩
          rw [← hq12] at ST2 ⊢
          clear f3 b3 g3 hst b7 hq12
          have d4 : decide ((k : Int) < 400) = true := by simp; omega
          go_upto_region 14 with fail
          simp only [Act.put, List.setIfInBounds_toArray, List.set_cons_succ, List.set_cons_zero]
          by_cases e1 : (k : Int) < (L.length : Int)
          · by_cases e2 : (k : Int) < 150
            · have hkl : k < L.length := by omega
              obtain ⟨bl, ol, rfl, hcW⟩ := HL.out.elem (n := 4) (fun _ => rfl) (by omega) k hkl
              have hbW : bl < W.heap.size := lt_of_cell (hcW 0 _ rfl)
              have hbd : ¬ pblk dp bl := fun hk => by have := (HPW.out _ hk).1; omega
              have H712 := Lib.hid (show ¬ q7 = q12 from fun e => by
                have h1 : Wb'.heap.size ≤ q12 := (ST2.out.blk _ (List.mem_cons_self ..)).2
                have h2 := H7.out
                omega)
              have HRG := Lib.hid (show w3.rangeAt bl (ol + k * 4) (LCh.cells L[k]) from fun j v hv => ST2.out.fr.cell (FB.out.cell (hcW j v hv) (fun h => h)) hbd)
              have HOK := Lib.hid (HLO.out _ (List.getElem_mem hkl))
              generalize L[k] = ch at HRG HOK
              clear hcW hbW
              go_upto_region 17 with (first | refine wpList_load_mid (by rfl) 40 _ (by rfl) bl (ol + k * 4) (by rfl) (LCh.cells ch) _ HRG.out Try.underlying40 rfl Try.infoLHChoice ?_ | (refine wpList_storeW (vs := ch.arr) (ST2.out.blkAt 0 rfl) (by rfl) 40 _ _ (by rfl) (by rfl) (by rfl) rfl Try.infoLHChoice (by rw [← Array.all_toList]; rfl) ?_; intro w4 f4 b4; have ST3 := Lib.hid (ST2.out.store 0 rfl f4 b4); have B3 := Lib.hid (blk_keep f4 B2.out H712.out); clear f4 b4))
              clear ST2 B2 HRG H712 hkl e1 e2 d4
              refine wp_tail ?_ (by assumption)
              refine hp_round (Lib.hid ?_) HWQ HPW hk4 HN HLN FB H7 B3 HOK ST3
              unfold HpK
              clear ST3 B3 HN HLN H7 FB
              intro v6 v12 v13 v14 v15 v16 v17 v18 v19 v20 v21 v39 v40 v41 v42 v43 v44 v45 v46 v47 v48 v49 v50 v51 v52 v53 v54 v55 v56 v57 v58 v59 v60 v61 v62 v63 v64 v65 v66 v67 v68 v69 v70 v71 v72 v73 v74 v75 v76 v77 v78 v79 v80 v81 v82 v83 v84 v85 v86 v87 v88 v89 v90 v91 v92 v93 v94 v95 v96 v97 v98 v99 v100 v101 v102 v103 v104 v105 v106 v107 v108 v109 v110 v111 v112 v113 v114 v115 v116 v117 v118 v119 v120 v121 v122 v123 v124 v125 v126 v127 v128 v129 v130 v131 v132 v133 v134 v135 v136 v137 v138 v139 v140 v141 v142 v143 v144 v145 v146 v147 v148 v149 v150 v151 v152 v153 v154 v155 v156 v157 v158 v159 v160 v161 v162 v163 v164 v165 v166 v167 v168 v169 v170 v171 v172 v173 v174 v175 v176 v177 v178 v179 v180 v181 v182 v183 v184 v185 v186 v187 v188 v189 v190 v191 v192 v193 v194 v195 v196 v197 v198 v199 v200 v201 v202 v203 v204 v205 v206 v207 v208 v209 v210 v211 v212 v213 v214 v215 v216 v217 v218 v219 v220 v221 v222 v223 v224 v225 v226 v227 v228 v229 v230 v231 v232 v233 v234 v235 v236 v237 v238 v239 v240 v241 v242 v243 v244 v245 v246 v247 v248 v249 v250 v251 v252 v253 v254 v255 v256 v257 v258 v259 v260 v261 v262 v263 v264 v265 v266 v267 v268 v269 v270 v271 v272 v273 v274 v275 v276 v277 v278 v279 v280 v281 v282 v283 v284 v285 v286 v287 v288 v289 v290 v291 w9 hst
              have HS := Lib.hid hst
              clear hst
              go_wp2_with fail
              go_roundw
              case rel => exact ⟨k + 1, by go_num, hk4, HS.out⟩
              case measure => simp [intOf]; omega
            · have d5 : decide ((k : Int) < 150) = false := decide_eq_false e2
              have y1 : w3.cell? ⟨q12, 1, none⟩ = some (.int .u8 0) := ST2.out.cell 0 1 rfl rfl
              have y2 : w3.cell? ⟨q12, 2, none⟩ = some (.int .u8 0) := ST2.out.cell 0 2 rfl rfl
              have z1 : w3.frozen? ⟨q12, 1, none⟩ = false := ST2.out.froz 0 1 rfl
              have z2 : w3.frozen? ⟨q12, 2, none⟩ = false := ST2.out.froz 0 2 rfl
              have r1 : (k : Int).tmod 4 = ((k % 4 : Nat) : Int) := by rw [Int.tmod_eq_emod_of_nonneg (by omega)]; omega
              have r2 : ((k : Int).tdiv 4).tmod 4 = (k : Int) / 4 % 4 := by rw [Int.tdiv_eq_ediv_of_nonneg (by omega), Int.tmod_eq_emod_of_nonneg (by omega)]
              obtain ⟨k1, hk1, hk2⟩ : ∃ k1 : Nat, k % 4 = k1 ∧ k1 < 4 := ⟨_, rfl, by omega⟩
              rw [hk1] at r1
              go_upto_region 17 with fail
              have HPQ := Lib.hid (show ¬ pblk dp q7 from fun h => (HPW.out _ h).2 rfl)
              obtain ⟨w4, hw4⟩ : ∃ x, x = (w3.setCell ⟨q12, 1, none⟩ (.int .u8 k1)).setCell ⟨q12, 2, none⟩ (.int .u8 ((k : Int) / 4 % 4)) := ⟨_, rfl⟩
              rw [← hw4]
              have ST3 := Lib.hid (show Sta Wb' (fun k => k ≠ q7) dp ds [⟨q12, LCh.arr ⟨2, k1, (k : Int) / 4 % 4, false⟩, 40⟩, ⟨q10, wsArr v, 38⟩] (ownW (fun m => n.w (m / 4) (m % 4)) v) (rowsN n.h x) w4 from hw4 ▸ (ST2.out.setC 0 rfl 1 (.int .u8 k1) (Nat.le_of_ble_eq_true rfl)).setC 0 rfl 2 (.int .u8 ((k : Int) / 4 % 4)) (Nat.le_of_ble_eq_true rfl))
              have B3 := Lib.hid ((ST3.out.olds H7.out HPQ.out).2 ((ST2.out.olds H7.out HPQ.out).1 B2.out))
              have HOK := Lib.hid (show LCh.Ok ⟨2, k1, (k : Int) / 4 % 4, false⟩ from ⟨⟨by show (0 : Int) ≤ 2; omega, by show (2 : Int) < 256; omega⟩, by simp only; omega, by simp only; omega⟩)
              clear ST2 B2 hw4 y1 y2 z1 z2 r1 r2 hk1 hk2 e1 d4 d5 HPQ
              refine wp_tail ?_ (by assumption)
              refine hp_round (Lib.hid ?_) HWQ HPW hk4 HN HLN FB H7 B3 HOK ST3
              unfold HpK
              clear ST3 B3 HN HLN H7 FB
              intro v6 v12 v13 v14 v15 v16 v17 v18 v19 v20 v21 v39 v40 v41 v42 v43 v44 v45 v46 v47 v48 v49 v50 v51 v52 v53 v54 v55 v56 v57 v58 v59 v60 v61 v62 v63 v64 v65 v66 v67 v68 v69 v70 v71 v72 v73 v74 v75 v76 v77 v78 v79 v80 v81 v82 v83 v84 v85 v86 v87 v88 v89 v90 v91 v92 v93 v94 v95 v96 v97 v98 v99 v100 v101 v102 v103 v104 v105 v106 v107 v108 v109 v110 v111 v112 v113 v114 v115 v116 v117 v118 v119 v120 v121 v122 v123 v124 v125 v126 v127 v128 v129 v130 v131 v132 v133 v134 v135 v136 v137 v138 v139 v140 v141 v142 v143 v144 v145 v146 v147 v148 v149 v150 v151 v152 v153 v154 v155 v156 v157 v158 v159 v160 v161 v162 v163 v164 v165 v166 v167 v168 v169 v170 v171 v172 v173 v174 v175 v176 v177 v178 v179 v180 v181 v182 v183 v184 v185 v186 v187 v188 v189 v190 v191 v192 v193 v194 v195 v196 v197 v198 v199 v200 v201 v202 v203 v204 v205 v206 v207 v208 v209 v210 v211 v212 v213 v214 v215 v216 v217 v218 v219 v220 v221 v222 v223 v224 v225 v226 v227 v228 v229 v230 v231 v232 v233 v234 v235 v236 v237 v238 v239 v240 v241 v242 v243 v244 v245 v246 v247 v248 v249 v250 v251 v252 v253 v254 v255 v256 v257 v258 v259 v260 v261 v262 v263 v264 v265 v266 v267 v268 v269 v270 v271 v272 v273 v274 v275 v276 v277 v278 v279 v280 v281 v282 v283 v284 v285 v286 v287 v288 v289 v290 v291 w9 hst
              have HS := Lib.hid hst
              clear hst
              go_wp2_with fail
              go_roundw
              case rel => exact ⟨k + 1, by go_num, hk4, HS.out⟩
              case measure => simp [intOf]; omega
          · have d5 : decide ((k : Int) < (L.length : Int)) = false := decide_eq_false e1
            have y1 : w3.cell? ⟨q12, 1, none⟩ = some (.int .u8 0) := ST2.out.cell 0 1 rfl rfl
            have y2 : w3.cell? ⟨q12, 2, none⟩ = some (.int .u8 0) := ST2.out.cell 0 2 rfl rfl
            have z1 : w3.frozen? ⟨q12, 1, none⟩ = false := ST2.out.froz 0 1 rfl
            have z2 : w3.frozen? ⟨q12, 2, none⟩ = false := ST2.out.froz 0 2 rfl
            have r1 : (k : Int).tmod 4 = ((k % 4 : Nat) : Int) := by rw [Int.tmod_eq_emod_of_nonneg (by omega)]; omega
            have r2 : ((k : Int).tdiv 4).tmod 4 = (k : Int) / 4 % 4 := by rw [Int.tdiv_eq_ediv_of_nonneg (by omega), Int.tmod_eq_emod_of_nonneg (by omega)]
            obtain ⟨k1, hk1, hk2⟩ : ∃ k1 : Nat, k % 4 = k1 ∧ k1 < 4 := ⟨_, rfl, by omega⟩
            rw [hk1] at r1
            go_upto_region 17 with fail
            have HPQ := Lib.hid (show ¬ pblk dp q7 from fun h => (HPW.out _ h).2 rfl)
            obtain ⟨w4, hw4⟩ : ∃ x, x = (w3.setCell ⟨q12, 1, none⟩ (.int .u8 k1)).setCell ⟨q12, 2, none⟩ (.int .u8 ((k : Int) / 4 % 4)) := ⟨_, rfl⟩
            rw [← hw4]
            have ST3 := Lib.hid (show Sta Wb' (fun k => k ≠ q7) dp ds [⟨q12, LCh.arr ⟨2, k1, (k : Int) / 4 % 4, false⟩, 40⟩, ⟨q10, wsArr v, 38⟩] (ownW (fun m => n.w (m / 4) (m % 4)) v) (rowsN n.h x) w4 from hw4 ▸ (ST2.out.setC 0 rfl 1 (.int .u8 k1) (Nat.le_of_ble_eq_true rfl)).setC 0 rfl 2 (.int .u8 ((k : Int) / 4 % 4)) (Nat.le_of_ble_eq_true rfl))
            have B3 := Lib.hid ((ST3.out.olds H7.out HPQ.out).2 ((ST2.out.olds H7.out HPQ.out).1 B2.out))
            have HOK := Lib.hid (show LCh.Ok ⟨2, k1, (k : Int) / 4 % 4, false⟩ from ⟨⟨by show (0 : Int) ≤ 2; omega, by show (2 : Int) < 256; omega⟩, by simp only; omega, by simp only; omega⟩)
            clear ST2 B2 hw4 y1 y2 z1 z2 r1 r2 hk1 hk2 e1 d4 d5 HPQ
            refine wp_tail ?_ (by assumption)
            refine hp_round (Lib.hid ?_) HWQ HPW hk4 HN HLN FB H7 B3 HOK ST3
            unfold HpK
            clear ST3 B3 HN HLN H7 FB
            intro v6 v12 v13 v14 v15 v16 v17 v18 v19 v20 v21 v39 v40 v41 v42 v43 v44 v45 v46 v47 v48 v49 v50 v51 v52 v53 v54 v55 v56 v57 v58 v59 v60 v61 v62 v63 v64 v65 v66 v67 v68 v69 v70 v71 v72 v73 v74 v75 v76 v77 v78 v79 v80 v81 v82 v83 v84 v85 v86 v87 v88 v89 v90 v91 v92 v93 v94 v95 v96 v97 v98 v99 v100 v101 v102 v103 v104 v105 v106 v107 v108 v109 v110 v111 v112 v113 v114 v115 v116 v117 v118 v119 v120 v121 v122 v123 v124 v125 v126 v127 v128 v129 v130 v131 v132 v133 v134 v135 v136 v137 v138 v139 v140 v141 v142 v143 v144 v145 v146 v147 v148 v149 v150 v151 v152 v153 v154 v155 v156 v157 v158 v159 v160 v161 v162 v163 v164 v165 v166 v167 v168 v169 v170 v171 v172 v173 v174 v175 v176 v177 v178 v179 v180 v181 v182 v183 v184 v185 v186 v187 v188 v189 v190 v191 v192 v193 v194 v195 v196 v197 v198 v199 v200 v201 v202 v203 v204 v205 v206 v207 v208 v209 v210 v211 v212 v213 v214 v215 v216 v217 v218 v219 v220 v221 v222 v223 v224 v225 v226 v227 v228 v229 v230 v231 v232 v233 v234 v235 v236 v237 v238 v239 v240 v241 v242 v243 v244 v245 v246 v247 v248 v249 v250 v251 v252 v253 v254 v255 v256 v257 v258 v259 v260 v261 v262 v263 v264 v265 v266 v267 v268 v269 v270 v271 v272 v273 v274 v275 v276 v277 v278 v279 v280 v281 v282 v283 v284 v285 v286 v287 v288 v289 v290 v291 w9 hst
            have HS := Lib.hid hst
            clear hst
            go_wp2_with fail
            go_roundw
            case rel => exact ⟨k + 1, by go_num, hk4, HS.out⟩
            case measure => simp [intOf]; omega
        · obtain rfl : k = 400 := by omega
          go_wp2_with fail
          go_ret
          obtain ⟨Wb', n, x, v, ds, -, -, g, -, -, st⟩ := HST.out
          exact ⟨rfl, Fr.trans g st.fr (fun k hk => .inr (HPW.out k hk).1)⟩
end Go.Proofs.Ytelepohdfcjnfaa
