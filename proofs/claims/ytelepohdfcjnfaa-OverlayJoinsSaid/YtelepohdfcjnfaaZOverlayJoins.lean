/-
  The walk of OverlayJoins (printed by gen_ojoins.py).
-/
import Derived.Test.YtelepohdfcjnfaaZJoinRound
import Derived.Deep.CutRange
import Derived.Deep.CutBlock
namespace Go.Proofs.Ytelepohdfcjnfaa
open Go.RowKit Go.Proofs

set_option maxHeartbeats 16000000 in
set_option maxRecDepth 100000 in
theorem overlayJoins_walk (cnt : Int) (a1 : Option Addr) (c1 : Nat) (lc : List Int) (W : World) (hcnt : 0 ≤ cnt ∧ cnt < 256)
    (hc : SlA W a1 lc.length c1 (lc.map (Value.int .u32))) (hcr : ∀ x ∈ lc, 0 ≤ x ∧ x < 4294967296) (hcb : lc.length * 4 ≤ 140737488355328) :
    Calls Try.prog 4 #[.int .u8 cnt, .slice a1 lc.length c1] W fun e w' => e = .returned (.bool true) ∧ Gr W w' := by
  have ST0 := Lib.hid (show Sta W (fun _ => True) (.pointer none) [] [] [] [⟨a1, lc.length, c1, lc.map (Value.int .u32)⟩] W from Sta.initR (by
    intro r hr
    rw [List.mem_singleton.1 hr]; exact hc))
  have HCR := Lib.hid hcr
  have S0 := Lib.hid (fun w => speaks13_any w)
  have e3 := hc.le
  have e4 := hc.max
  have HCG := Lib.hid (show cGood (cfg13 3 6) = true by decide)
  have hb1 : 0 ≤ cnt % 6 := by omega
  have hb2 : cnt % 6 < 6 := by omega
  obtain ⟨N, hN, hN2, hN7⟩ : ∃ N : Nat, 2 + cnt % 6 = (N : Int) ∧ 2 ≤ N ∧ N ≤ 7 := ⟨(cnt % 6).toNat + 2, by omega, by omega, by omega⟩
  have CD := Lib.hid (fun w h => new_any a1 c1 lc w h hcb hcr)
  clear hc hcr
  go_enter Try.func4, Try.ntmps4
  go_wp2_with fail
  refine (S0.out _).mono ?_
  rintro e w2 ⟨rfl, f_⟩
  have ST1 := Lib.hid (show Sta W (fun _ => True) (.pointer none) [] [] [] [⟨a1, lc.length, c1, lc.map (Value.int .u32)⟩] w2 from ST0.out.gr f_)
  clear ST0 f_ S0
  go_wp2_with fail
  refine (CD.out _ (ST1.out.row _ List.mem_cons_self)).mono ?_
  rintro e w4 ⟨d, rfl, hd3, hd4, bl4⟩
  obtain ⟨dp, hdp⟩ : ∃ dp, dp = Value.pointer (some ⟨d, 0, none⟩) := ⟨_, rfl⟩
  have ST2 := Lib.hid (show Sta W (fun _ => True) dp lc [] [] [⟨a1, lc.length, c1, lc.map (Value.int .u32)⟩] w4 from ST1.out.drawn (Gr.of_below bl4) (.inr ⟨d, hdp, hd4⟩) (fun k hk => by rw [hdp] at hk; unfold pblk at hk; cases hk; exact hd3))
  have HDP := Lib.hid (show ∀ k, pblk dp k → W.heap.size ≤ k from fun k hk => by
    rw [hdp] at hk
    unfold pblk at hk
    cases hk
    exact Nat.le_trans ST1.out.size hd3)
  rw [← hdp]
  clear hd3 hd4 bl4 hdp CD ST1
  obtain ⟨oo, hoo⟩ : ∃ oo : Nat → Ov, oo = fun i : Nat => oNew ((i : Int) + 1) (cfg13 3 6) := ⟨_, rfl⟩
  have HOO := Lib.hid (show ∀ k : Nat, oNew ((k : Int) + 1) (cfg13 3 6) = oo k by rw [hoo]; intro k; rfl)
  have HST := Lib.hid (JI.start hN2 (show N ≤ 60000 by omega))
  rw [← hoo] at HST
  have PART := Lib.hid (show ∃ (bo : Nat → Nat) (x : Nat → OvP) (R : List Rw), OjRows 0 oo x R ∧ Sta W (fun _ => True) dp lc (ovB 0 bo oo x) [⟨59, 1, .slice none 0 0, 0, ptrL bo 0⟩] R w4 from
    ⟨fun _ => 0, fun _ => ⟨none, 0, ⟨vwNone, none, 0⟩⟩, _, fun i hi => absurd hi (Nat.not_lt_zero _), ST2.out.ownNil 59 1⟩)
  clear ST2 hoo
  go_wp2_with fail
  go_loopw [8, 7] (fun iv v7 wr => ∃ k : Nat, iv = .int .i64 k ∧ k ≤ N ∧ ∃ (bo : Nat → Nat) (x : Nat → OvP) (R : List Rw), OjRows k oo x R ∧ Sta W (fun _ => True) dp lc (ovB k bo oo x) [⟨59, 1, v7, k, ptrL bo k⟩] R wr) (fun iv _ _ => N - (intOf iv).toNat)
  case atStart => exact ⟨0, rfl, Nat.zero_le _, PART.out⟩
  case round =>
    clear PART
    obtain ⟨k, rfl, hk, bo, x, R, hx, st⟩ := hrel
    have HX := Lib.hid hx
    have ST1 := Lib.hid st
    clear hx st
    by_cases hkN : k < N
    · have CC := Lib.hid (config13_any 3 6 dp lc W (fun _ => True) (ovB k bo oo x) _ R wr ST1.out)
      have CN := Lib.hid (fun sa sc w h => ovNew_any ((k : Int) + 1) (cfg13 3 6) sa sc dp lc W (fun _ => True) (ovB k bo oo x) [⟨59, 1, u7, k, ptrL bo k⟩] R w h)
      have hci : (cGood (cfg13 3 6) && cIn ((k : Int) + 1) 1 65535) = true := by
        rw [HCG.out]
        unfold cIn
        simp only [Bool.true_and, Bool.and_eq_true, decide_eq_true_eq]
        omega
      unfold NewEnd at CN
      simp only [hci, if_true] at CN
      rw [HOO.out k] at CN
      clear hci
      go_upto_region 9 with fail
      go_wp2_with fail
      refine CC.out.mono ?_
      rintro e w5 ⟨sa, sc, rfl, hst⟩
      have ST2 := Lib.hid hst
      clear hst CC
      go_wp2_with fail
      refine (CN.out sa sc _ ST2.out).mono ?_
      rintro e w6 ⟨g, x', rfl, hst⟩
      have ST3 := Lib.hid hst
      clear hst CN ST2 ST1
      go_upto_region 12 with fail
      refine wp_region_lit ?_
      iterate 9 go_step
      obtain ⟨w7, hw7⟩ : ∃ y, y = w6.alloc (.cells #[.pointer (some ⟨g, 0, none⟩)] 59) := ⟨_, rfl⟩
      obtain ⟨nb, hnb⟩ : ∃ q, q = w6.heap.size := ⟨_, rfl⟩
      rw [← hw7, ← hnb]
      have ST4 := Lib.hid (show Sta W (fun _ => True) dp lc (⟨g, (oo k).arr x', 118⟩ :: ovB k bo oo x) [⟨59, 1, .slice (some ⟨nb, 0, none⟩) 1 1, 1, [.pointer (some ⟨g, 0, none⟩)]⟩, ⟨59, 1, u7, k, ptrL bo k⟩] (orows (oo k) x' R) w7 from hw7 ▸ ST3.out.ownNew ((Fr.refl _ _).alloc _) (xs := [.pointer (some ⟨g, 0, none⟩)]) (n := 1) (by rw [heap_alloc_if, if_pos hnb]) (Nat.le_of_eq hnb.symm) rfl (by decide))
      clear hw7 hnb ST3
      refine wpList_growT (by rfl) _ _ 58 59 1 8 (.pointer none) Try.underlying58 Try.infoPOv rfl (by decide) (by decide) (by rfl) ST4.out 1 rfl (by rfl) (by rfl) (own_add (ST4.out.ownAt 0 rfl)) (by rfl) rfl (by omega) ?_
      intro v7 w8 hst
      have ST5 := Lib.hid (show Sta W (fun _ => True) dp lc (ovB (k + 1) (upd bo k g) oo (upd x k x')) [⟨59, 1, v7, k + 1, ptrL (upd bo k g) (k + 1)⟩] (orows (oo k) x' R) w8 from by
        rw [ptrL_push]
        exact (hst.less (List.Sublist.cons _ (List.Sublist.refl _)) (fun _ h => h)).permB (ovB_push k bo oo x g x').symm)
      obtain ⟨a7, c7, hv7, -, -, -⟩ := SlA.of_own (ST5.out.ownAt 0 rfl)
      subst hv7
      clear hst ST4
      go_wp2_with fail
      go_roundw
      case rel =>
        refine ⟨k + 1, by go_num, by omega, upd bo k g, upd x k x', orows (oo k) x' R, fun i hi r hr => ?_, ST5.out⟩
        by_cases e : i = k
        · subst e
          rw [upd_same] at hr
          exact (orows_app _ _ _ _).2 (.inl hr)
        · rw [upd_other _ _ e] at hr
          exact (orows_app _ _ _ _).2 (.inr (HX.out i (by omega) r hr))
      case measure => simp [intOf]; omega
    · obtain rfl : k = N := by omega
      obtain ⟨ap, cp, hv7, st⟩ := ST1.out.asRow 0 rfl
      subst hv7
      have HO := Lib.hid (show OjSt W k dp bo ap cp wr from ⟨oo, x, lc, _, HST.out, fun i hi r hr => List.mem_cons_of_mem _ (HX.out i hi r hr), List.mem_cons_self, st⟩)
      clear st ST1 HX HOO HST
      go_wp2_with fail
      generalize wr = wr0 at HO ⊢
      go_loopw [11] (fun iv wr => ∃ j : Nat, iv = .int .i64 j ∧ j ≤ 12 ∧ OjSt W k dp bo ap cp wr) (fun iv _ => 12 - (intOf iv).toNat)
      case atStart => exact ⟨0, rfl, by decide, HO.out⟩
      case round =>
        obtain ⟨j, rfl, hj, hst⟩ := hrel
        have HS := Lib.hid hst
        clear hst HO
        by_cases hj2 : j < 12
        · go_upto_region 16 with fail
          refine wp_tail ?_ (by assumption)
          refine oj_round (Lib.hid ?_) (by omega) HS
          unfold OjRK
          clear HS
          intro v4 v12 v13 v14 v15 v16 v17 v18 v19 v20 v21 v22 v51 v52 v53 v54 v55 v56 v57 v58 v59 v60 v61 v62 v63 v64 v65 v66 v67 v68 v69 v70 v71 v72 v73 v74 v75 v76 v77 v78 v79 v80 v81 v82 v83 v84 v85 v86 v87 v88 v89 v90 v91 v92 v93 v94 v95 v96 v97 v98 v99 v100 v101 v102 v103 v104 v105 v106 v107 v108 v109 v110 v111 v112 v113 v114 v115 v116 v117 v118 v119 v120 v121 v122 v123 v124 v125 v126 v127 v128 v129 v130 v131 v132 v133 v134 v135 v136 v137 v138 v139 v140 v141 v142 v143 v144 v145 v146 v147 v148 v149 v150 v151 v152 v153 v154 v155 v156 v157 v158 v159 v160 v161 v162 v163 v164 v165 v166 v167 v168 v169 v170 v171 v172 v173 v174 v175 v176 v177 v178 v179 v180 v181 v182 v183 v184 v185 v186 v187 v188 v189 v190 v191 v192 v193 v194 w9 hst
          have HS := Lib.hid hst
          clear hst
          go_wp2_with fail
          go_roundw
          case rel => exact ⟨j + 1, by go_num, hj2, HS.out⟩
          case measure => simp [intOf]; omega
        · obtain rfl : j = 12 := by omega
          go_wp2_with fail
          go_ret
          obtain ⟨o, x, ds, R, -, -, -, st⟩ := HS.out
          exact ⟨rfl, Fr.trans (Fr.refl _ _) st.fr (fun k hk => .inr (HDP.out k hk))⟩
end Go.Proofs.Ytelepohdfcjnfaa
