/-
  The walk of OverlayPairs (printed by gen_opairs.py).
-/
import Derived.Test.YtelepohdfcjnfaaGreatZOpRound
import Derived.Deep.CutRange
import Derived.Deep.CutBlock
namespace Go.Proofs.YtelepohdfcjnfaaGreat
open Go.RowKit Go.Proofs

set_option maxHeartbeats 16000000 in
set_option maxRecDepth 100000 in
theorem overlayPairs_walk (s0 s1 : Int) (a1 : Option Addr) (c1 : Nat) (CH : List OCh) (a2 : Option Addr) (c2 : Nat) (lc : List Int) (W : World) (h1 : SlA W a1 CH.length c1 (CH.flatMap OCh.cells))
    (hc : SlA W a2 lc.length c2 (lc.map (Value.int .u32))) (hcr : ∀ x ∈ lc, 0 ≤ x ∧ x < 4294967296) (hcb : lc.length * 4 ≤ 140737488355328) (hlo : ∀ x ∈ CH, x.Ok) :
    Calls Tryz.prog 4 #[.agg #[.int .u8 s0, .int .u8 s1], .slice a1 CH.length c1, .slice a2 lc.length c2] W fun e w' => e = .returned (.bool true) ∧ Gr W w' := by
  obtain ⟨iz, hz1, hz2, hzs⟩ := info_pair Tryz.zeroOpArr
  obtain ⟨iy, hy1, hy2, hys⟩ := info_pair Tryz.zeroOpWays
  have ST0 := Lib.hid (show Sta W (fun _ => True) (.pointer none) [] [] [] [⟨a1, CH.length, c1, CH.flatMap OCh.cells⟩, ⟨a2, lc.length, c2, lc.map (Value.int .u32)⟩] W from Sta.initR (by
    intro r hr
    rcases List.mem_cons.1 hr with rfl | hr
    · exact h1
    · rw [List.mem_singleton.1 hr]; exact hc))
  have HLO := Lib.hid hlo
  have HCR := Lib.hid hcr
  have S0 := Lib.hid (fun w => speaks13_any w)
  have e1 := h1.le
  have e2 := h1.max
  have e3 := hc.le
  have e4 := hc.max
  obtain ⟨r0, hr0, hr1, hr2⟩ := bits8 s0 1 (by decide)
  obtain ⟨r1, hr3, hr4, hr5⟩ := bits8 s1 3 (by decide)
  have HCG := Lib.hid (cfg_good (r0 := r0) (r1 := r1) ⟨hr1, by omega⟩ ⟨hr4, by omega⟩)
  have HST := Lib.hid (op_start (r0 := r0) (r1 := r1) ⟨hr1, by omega⟩ ⟨hr4, by omega⟩)
  have hr0' : bits .and .u8 s0 1 = r0 := hr0
  have hr3' : bits .and .u8 s1 3 = r1 := hr3
  clear h1 hc hcr hlo hr0 hr3
  go_enter Tryz.func4, Tryz.ntmps4
  go_upto_region 1 with fail
  obtain ⟨w1, hw1⟩ : ∃ x, x = W.alloc (.cells #[.int .u8 s0, .int .u8 s1] 65) := ⟨_, rfl⟩
  obtain ⟨q3, hq3⟩ : ∃ q, q = W.heap.size := ⟨_, rfl⟩
  rw [← hw1, ← hq3]
  have ST1 := Lib.hid (show Sta W (fun _ => True) (.pointer none) [] [⟨q3, #[.int .u8 s0, .int .u8 s1], 65⟩] [] [⟨a1, CH.length, c1, CH.flatMap OCh.cells⟩, ⟨a2, lc.length, c2, lc.map (Value.int .u32)⟩] w1 from hw1 ▸ ST0.out.box _ _ hq3)
  clear hw1 hq3 ST0
  go_wp2_with fail
  refine (S0.out _).mono ?_
  rintro e w2 ⟨rfl, f_⟩
  have ST2 := Lib.hid (show Sta W (fun _ => True) (.pointer none) [] [⟨q3, #[.int .u8 s0, .int .u8 s1], 65⟩] [] [⟨a1, CH.length, c1, CH.flatMap OCh.cells⟩, ⟨a2, lc.length, c2, lc.map (Value.int .u32)⟩] w2 from ST1.out.gr f_)
  clear ST1 f_ S0
  obtain ⟨w3, hw3⟩ : ∃ x, x = w2.alloc (.cells #[.pointer none, .pointer none, .pointer none, .pointer none, .pointer none] 67) := ⟨_, rfl⟩
  obtain ⟨q7, hq7⟩ : ∃ q, q = w2.heap.size := ⟨_, rfl⟩
  obtain ⟨oo, hoo⟩ : ∃ oo : Nat → Ov, oo = fun i : Nat => oNew ((i : Int) + 1) (cfg13 (2 + r0) (1 + r1)) := ⟨_, rfl⟩
  rw [← hoo] at HST
  have HOO := Lib.hid (show ∀ k : Nat, oNew ((k : Int) + 1) (cfg13 (2 + r0) (1 + r1)) = oo k by rw [hoo]; intro k; rfl)
  have HW3 := Lib.hid hw3
  have HQ7 := Lib.hid hq7
  have PART := Lib.hid (show ∃ (bo : Nat → Nat) (x : Nat → OvP) (R : List Rw), (∀ i, i < 0 → ∀ r ∈ orows (oo i) (x i) [], r ∈ R) ∧ (⟨a1, CH.length, c1, CH.flatMap OCh.cells⟩ : Rw) ∈ R ∧ (⟨a2, lc.length, c2, lc.map (Value.int .u32)⟩ : Rw) ∈ R ∧ Sta W (fun _ => True) (.pointer none) [] (⟨q7, ptrs bo 0, 67⟩ :: ⟨q3, #[.int .u8 s0, .int .u8 s1], 65⟩ :: ovB 0 bo oo x) [] R w3 from
    ⟨fun _ => 0, fun _ => ⟨none, 0, ⟨vwNone, none, 0⟩⟩, _, fun i hi => absurd hi (Nat.not_lt_zero _), List.mem_cons_self, List.mem_cons_of_mem _ List.mem_cons_self, hw3 ▸ ST2.out.box _ _ hq7⟩)
  clear hw3 hq7 ST2 hoo
  go_wp2_with fail
  rw [← HW3.out, ← HQ7.out]
  clear HW3 HQ7
  go_loopw [8] (fun iv wr => ∃ k : Nat, iv = .int .i64 k ∧ k ≤ 5 ∧ ∃ (bo : Nat → Nat) (x : Nat → OvP) (R : List Rw), (∀ i, i < k → ∀ r ∈ orows (oo i) (x i) [], r ∈ R) ∧ (⟨a1, CH.length, c1, CH.flatMap OCh.cells⟩ : Rw) ∈ R ∧ (⟨a2, lc.length, c2, lc.map (Value.int .u32)⟩ : Rw) ∈ R ∧ Sta W (fun _ => True) (.pointer none) [] (⟨q7, ptrs bo k, 67⟩ :: ⟨q3, #[.int .u8 s0, .int .u8 s1], 65⟩ :: ovB k bo oo x) [] R wr) (fun iv _ => 5 - (intOf iv).toNat)
  case atStart => exact ⟨0, rfl, by decide, PART.out⟩
  case round =>
    clear PART
    obtain ⟨k, rfl, hk, bo, x, R, hx, hch, hcc, st⟩ := hrel
    have HX := Lib.hid hx
    have HCH := Lib.hid hch
    have HCC := Lib.hid hcc
    have ST1 := Lib.hid st
    clear hx hch hcc st
    by_cases hk5 : k < 5
    · have y0 := ST1.out.cell 1 0 rfl rfl
      have y1 := ST1.out.cell 1 1 rfl rfl
      have CC := Lib.hid (config13_any (2 + r0) (1 + r1) (.pointer none) [] W (fun _ => True) (⟨q7, ptrs bo k, 67⟩ :: ⟨q3, #[.int .u8 s0, .int .u8 s1], 65⟩ :: ovB k bo oo x) [] R wr ST1.out)
      have CN := Lib.hid (fun sa sc w h => ovNew_any ((k : Int) + 1) (cfg13 (2 + r0) (1 + r1)) sa sc (.pointer none) [] W (fun _ => True) (⟨q7, ptrs bo k, 67⟩ :: ⟨q3, #[.int .u8 s0, .int .u8 s1], 65⟩ :: ovB k bo oo x) [] R w h)
      have hci : (cGood (cfg13 (2 + r0) (1 + r1)) && cIn ((k : Int) + 1) 1 65535) = true := by
        rw [HCG.out]
        unfold cIn
        simp only [Bool.true_and, Bool.and_eq_true, decide_eq_true_eq]
        omega
      unfold NewEnd at CN
      simp only [hci, if_true] at CN
      rw [HOO.out k] at CN
      clear hci
      go_upto_region 8 with fail
      refine CC.out.mono ?_
      rintro e w4 ⟨sa, sc, rfl, hst⟩
      have ST2 := Lib.hid hst
      clear hst CC y0 y1
      go_wp2_with fail
      refine (CN.out sa sc _ ST2.out).mono ?_
      rintro e w5 ⟨g, x', rfl, hst⟩
      have ST3 := Lib.hid hst
      clear hst CN ST2
      have zc : w5.cell? ⟨q7, k, none⟩ = some (.pointer none) := by
        rw [ST3.out.cell 1 k rfl (wsN_get _ hk5)]
        simp
      have zf : w5.frozen? ⟨q7, k, none⟩ = false := ST3.out.froz 1 k rfl
      go_wp2_with fail
      clear zc zf
      obtain ⟨w6, hw6⟩ : ∃ y, y = w5.setCell ⟨q7, k, none⟩ (.pointer (some ⟨g, 0, none⟩)) := ⟨_, rfl⟩
      rw [← hw6]
      have ST4 := Lib.hid (show Sta W (fun _ => True) (.pointer none) [] (⟨q7, ptrs (upd bo k g) (k + 1), 67⟩ :: ⟨q3, #[.int .u8 s0, .int .u8 s1], 65⟩ :: ovB (k + 1) (upd bo k g) oo (upd x k x')) [] (orows (oo k) x' R) w6 from by
        have h1 := ST3.out.setC 1 rfl k (.pointer (some ⟨g, 0, none⟩)) (by show k + 1 ≤ (wsN 5 _).size; rw [wsN_size]; omega)
        rw [ptrs_put bo hk5 g, ← hw6] at h1
        refine h1.permB ?_
        refine ((((ovB_push k bo oo x g x').symm.cons _).cons _).trans ?_)
        exact ((List.Perm.swap _ _ _).cons _).trans (List.Perm.swap _ _ _))
      clear hw6 ST3
      go_roundw
      case rel =>
        refine ⟨k + 1, by go_num, by omega, upd bo k g, upd x k x', orows (oo k) x' R, fun i hi r hr => ?_, by simp only [orows, hrows, vrows, List.mem_cons]; exact .inr (.inr (.inr (.inr HCH.out))), by simp only [orows, hrows, vrows, List.mem_cons]; exact .inr (.inr (.inr (.inr HCC.out))), ST4.out⟩
        by_cases e : i = k
        · subst e
          rw [upd_same] at hr
          simp only [orows, hrows, vrows, List.mem_cons, List.not_mem_nil, or_false] at hr ⊢
          rcases hr with h | h | h | h
          · exact .inl h
          · exact .inr (.inl h)
          · exact .inr (.inr (.inl h))
          · exact .inr (.inr (.inr (.inl h)))
        · rw [upd_other _ _ e] at hr
          have := HX.out i (by omega) r hr
          simp only [orows, hrows, vrows, List.mem_cons]
          exact .inr (.inr (.inr (.inr this)))
      case measure => simp [intOf]; omega
    · obtain rfl : k = 5 := by omega
      have CD := Lib.hid (new_any a2 c2 lc wr (ST1.out.row _ HCC.out) hcb HCR.out)
      go_wp2_with fail
      refine CD.out.mono ?_
      rintro e w4 ⟨d, rfl, hd3, hd4, bl4⟩
      obtain ⟨dp, hdp⟩ : ∃ dp, dp = Value.pointer (some ⟨d, 0, none⟩) := ⟨_, rfl⟩
      have ST2 := Lib.hid (show Sta W (fun _ => True) dp lc (⟨q7, ptrs bo 5, 67⟩ :: ⟨q3, #[.int .u8 s0, .int .u8 s1], 65⟩ :: ovB 5 bo oo x) [] R w4 from ST1.out.drawn (Gr.of_below bl4) (.inr ⟨d, hdp, hd4⟩) (fun k hk => by rw [hdp] at hk; unfold pblk at hk; cases hk; exact hd3))
      have HDP := Lib.hid (show ∀ k, pblk dp k → W.heap.size ≤ k from fun k hk => by
        rw [hdp] at hk
        unfold pblk at hk
        cases hk
        exact Nat.le_trans ST1.out.size hd3)
      rw [← hdp]
      clear hd3 hd4 bl4 hdp CD ST1
      obtain ⟨w5, hw5⟩ : ∃ y, y = w4.alloc (.cells #[.slice none 0 0, .slice none 0 0, .slice none 0 0, .slice none 0 0, .slice none 0 0, .slice none 0 0, .slice none 0 0, .slice none 0 0, .slice none 0 0, .slice none 0 0, .slice none 0 0, .slice none 0 0, .slice none 0 0, .slice none 0 0, .slice none 0 0, .slice none 0 0, .slice none 0 0, .slice none 0 0, .slice none 0 0, .slice none 0 0, .slice none 0 0, .slice none 0 0, .slice none 0 0, .slice none 0 0, .slice none 0 0] 71) := ⟨_, rfl⟩
      obtain ⟨q12, hq12⟩ : ∃ q, q = w4.heap.size := ⟨_, rfl⟩
      have ST3 := Lib.hid (show OpSt W q12 q7 q3 s0 s1 dp bo (2 + r0) (1 + r1) a1 c1 CH (70 * 0) w5 from by
        refine ⟨oo, x, fun _ _ => [], fun _ => .slice none 0 0, lc, R, HST.out, fun _ _ => Nat.zero_le _, ⟨HX.out, fun i j l hl => (by cases hl)⟩, HCH.out, ?_⟩
        rw [hw5]
        exact (ST2.out.box _ _ hq12).nils25)
      have HW5 := Lib.hid hw5
      have HQ12 := Lib.hid hq12
      clear hw5 hq12 ST2 HX HCH HCC HST HOO HCG
      go_wp2_with fail
      rw [← HW5.out, ← HQ12.out]
      clear HW5 HQ12
      generalize wr = wr0
      have HQ0 := Lib.hid (show ∃ r, bits .and .u8 s0 1 = r ∧ 0 ≤ r ∧ r ≤ 1 ∧ 2 + r0 = 2 + r from ⟨r0, hr0', hr1, by omega, rfl⟩)
      have HQ1 := Lib.hid (show ∃ r, bits .and .u8 s1 3 = r ∧ 0 ≤ r ∧ r ≤ 3 ∧ 1 + r1 = 1 + r from ⟨r1, hr3', hr4, by omega, rfl⟩)
      clear hr0' hr3'
      go_loopw [13] (fun iv wr => ∃ k : Nat, iv = .int .i64 k ∧ k ≤ 200 ∧ OpSt W q12 q7 q3 s0 s1 dp bo (2 + r0) (1 + r1) a1 c1 CH (70 * k) wr) (fun iv _ => 200 - (intOf iv).toNat)
      case atStart => exact ⟨0, rfl, by decide, ST3.out⟩
      case round =>
        obtain ⟨k, rfl, hk, hst⟩ := hrel
        have HST := Lib.hid hst
        clear hst ST3
        by_cases hkc : (k : Int) < (CH.length : Int)
        · by_cases hk2 : (k : Int) < 200
          · go_upto_region 16 with fail
            refine wp_tail ?_ (by assumption)
            refine op_round (Lib.hid ?_) (by omega) HQ0 HQ1 HLO (by omega) HST
            unfold OpK
            clear HST
            intro v6 v14 v15 v16 v17 v18 v19 v20 v21 v22 v23 v24 v25 v56 v57 v58 v59 v60 v61 v62 v63 v64 v65 v66 v67 v68 v69 v70 v71 v72 v73 v74 v75 v76 v77 v78 v79 v80 v81 v82 v83 v84 v85 v86 v87 v88 v89 v90 v91 v92 v93 v94 v95 v96 v97 v98 v99 v100 v101 v102 v103 v104 v105 v106 v107 v108 v109 v110 v111 v112 v113 v114 v115 v116 v117 v118 v119 v120 v121 v122 v123 v124 v125 v126 v127 v128 v129 v130 v131 v132 v133 v134 v135 v136 v137 v138 v139 v140 v141 v142 v143 v144 v145 v146 v147 v148 v149 v150 v151 v152 v153 v154 v155 v156 v157 v158 v159 v160 v161 v162 v163 v164 v165 v166 v167 v168 v169 v170 v171 v172 v173 v174 v175 v176 v177 v178 v179 v180 v181 v182 v183 v184 v185 v186 v187 v188 v189 v190 v191 v192 v193 v194 v195 v196 v197 v198 v199 v200 v201 v202 v203 v204 v205 v206 v207 v208 v209 v210 v211 v212 v213 v214 v215 v216 v217 v218 v219 v220 v221 v222 v223 v224 v225 v226 v227 v228 v229 v230 v231 v232 v233 v234 v235 v236 v237 v238 v239 v240 v241 v242 v243 v244 v245 v246 v247 v248 v249 v250 v251 v252 v253 v254 v255 v256 v257 v258 v259 v260 v261 v262 v263 v264 v265 v266 v267 v268 v269 v270 v271 v272 v273 v274 v275 v276 v277 v278 v279 v280 v281 v282 w9 hst
            have HS := Lib.hid hst
            clear hst
            go_wp2_with fail
            go_roundw
            case rel => exact ⟨k + 1, by go_num, by omega, HS.out⟩
            case measure => simp [intOf]; omega
          · have d1 : decide ((k : Int) < 200) = false := decide_eq_false hk2
            go_wp2_with fail
            go_ret
            obtain ⟨o, x, ws, v, ds, R, -, -, -, -, st⟩ := HST.out
            exact ⟨rfl, Fr.trans (Fr.refl _ _) st.fr (fun k hk => .inr (HDP.out k hk))⟩
        · have d1 : decide ((k : Int) < (CH.length : Int)) = false := decide_eq_false hkc
          go_wp2_with fail
          go_ret
          obtain ⟨o, x, ws, v, ds, R, -, -, -, -, st⟩ := HST.out
          exact ⟨rfl, Fr.trans (Fr.refl _ _) st.fr (fun k hk => .inr (HDP.out k hk))⟩
end Go.Proofs.YtelepohdfcjnfaaGreat
