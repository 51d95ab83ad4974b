/-
  A round of OverlayJoins (printed by gen_ojr.py).
-/
import Derived.Test.YtelepohdfcjnfaaZJoinSt
import Derived.Test.YtelepohdfcjnfaaZRegionW
import Derived.Deep.CutRange
import Derived.Deep.CutBlock
namespace Go.Proofs.Ytelepohdfcjnfaa
open Go.RowKit Go.Proofs

set_option maxHeartbeats 16000000 in
set_option maxRecDepth 100000 in
def OjRK (W : World) (N : Nat) (dp : Value) (bo : Nat → Nat) (ap : Option Addr) (cp : Nat) (r : Nat) (u0 u1 u2 u3 u8 u9 u10 u23 u24 u25 u26 u27 u28 u29 u30 u31 u32 u33 u34 u35 u36 u37 u38 u39 u40 u41 u42 u43 u44 u45 u46 u47 u48 u49 u50 : Value) (K : Act → World → Prop) : Prop :=
  ∀ (v4 v12 v13 v14 v15 v16 v17 v18 v19 v20 v21 v22 v51 v52 v53 v54 v55 v56 v57 v58 v59 v60 v61 v62 v63 v64 v65 v66 v67 v68 v69 v70 v71 v72 v73 v74 v75 v76 v77 v78 v79 v80 v81 v82 v83 v84 v85 v86 v87 v88 v89 v90 v91 v92 v93 v94 v95 v96 v97 v98 v99 v100 v101 v102 v103 v104 v105 v106 v107 v108 v109 v110 v111 v112 v113 v114 v115 v116 v117 v118 v119 v120 v121 v122 v123 v124 v125 v126 v127 v128 v129 v130 v131 v132 v133 v134 v135 v136 v137 v138 v139 v140 v141 v142 v143 v144 v145 v146 v147 v148 v149 v150 v151 v152 v153 v154 v155 v156 v157 v158 v159 v160 v161 v162 v163 v164 v165 v166 v167 v168 v169 v170 v171 v172 v173 v174 v175 v176 v177 v178 v179 v180 v181 v182 v183 v184 v185 v186 v187 v188 v189 v190 v191 v192 v193 v194 : Value) (w' : World), OjSt W N dp bo ap cp w' → K ⟨List.toArray (u0 :: u1 :: u2 :: u3 :: v4 :: .int .i64 (N : Int) :: dp :: .slice ap N cp :: u8 :: u9 :: u10 :: .int .i64 (r : Int) :: v12 :: v13 :: v14 :: v15 :: v16 :: v17 :: v18 :: v19 :: v20 :: v21 :: v22 :: u23 :: u24 :: u25 :: u26 :: u27 :: u28 :: u29 :: u30 :: u31 :: u32 :: u33 :: u34 :: u35 :: u36 :: u37 :: u38 :: u39 :: u40 :: u41 :: u42 :: u43 :: u44 :: u45 :: u46 :: u47 :: u48 :: u49 :: u50 :: v51 :: v52 :: v53 :: v54 :: v55 :: v56 :: v57 :: v58 :: v59 :: v60 :: v61 :: v62 :: v63 :: v64 :: v65 :: v66 :: v67 :: v68 :: v69 :: v70 :: v71 :: v72 :: v73 :: v74 :: v75 :: v76 :: v77 :: v78 :: v79 :: v80 :: v81 :: v82 :: v83 :: v84 :: v85 :: v86 :: v87 :: v88 :: v89 :: v90 :: v91 :: v92 :: v93 :: v94 :: v95 :: v96 :: v97 :: v98 :: v99 :: v100 :: v101 :: v102 :: v103 :: v104 :: v105 :: v106 :: v107 :: v108 :: v109 :: v110 :: v111 :: v112 :: v113 :: v114 :: v115 :: v116 :: v117 :: v118 :: v119 :: v120 :: v121 :: v122 :: v123 :: v124 :: v125 :: v126 :: v127 :: v128 :: v129 :: v130 :: v131 :: v132 :: v133 :: v134 :: v135 :: v136 :: v137 :: v138 :: v139 :: v140 :: v141 :: v142 :: v143 :: v144 :: v145 :: v146 :: v147 :: v148 :: v149 :: v150 :: v151 :: v152 :: v153 :: v154 :: v155 :: v156 :: v157 :: v158 :: v159 :: v160 :: v161 :: v162 :: v163 :: v164 :: v165 :: v166 :: v167 :: v168 :: v169 :: v170 :: v171 :: v172 :: v173 :: v174 :: v175 :: v176 :: v177 :: v178 :: v179 :: v180 :: v181 :: v182 :: v183 :: v184 :: v185 :: v186 :: v187 :: v188 :: v189 :: v190 :: v191 :: v192 :: v193 :: v194 :: []), []⟩ w'
theorem rowAtR {W : World} {O : Nat → Prop} {q : Value} {ds : List Int} {B : List Blk} {L : List Ow} {R : List Rw} {w : World} {pb po n c j : Nat} {xs : List Value} {u : Value} (h : Sta W O q ds B L R w) (hm : (⟨some ⟨pb, po, none⟩, n, c, xs⟩ : Rw) ∈ R) (hj : xs[j]? = some u) : w.cell? ⟨pb, po + j, none⟩ = some u := by
  obtain ⟨b_, o_, e_, h_⟩ := (h.row _ hm).cell j u hj
  injection e_ with e_
  injection e_ with e1 e2
  subst e1 e2
  exact h_
set_option maxHeartbeats 16000000 in
set_option maxRecDepth 100000 in
theorem oj_check {g14 : Nat} {W : World} {N : Nat} {dp : Value} {bo : Nat → Nat} {ap : Option Addr} {cp : Nat} {r : Nat} {u0 u1 u2 u3 u8 u9 u10 u23 u24 u25 u26 u27 u28 u29 u30 u31 u32 u33 u34 u35 u36 u37 u38 u39 u40 u41 u42 u43 u44 u45 u46 u47 u48 u49 u50 : Value} {K NN K2 : Act → World → Prop} {P : Ending → World → Prop} {wr : World} {u4 u12 u13 u15 u16 u17 u18 u19 u20 u21 u22 u51 u52 u53 u54 u55 u56 u57 u58 u59 u60 u61 u62 u63 u64 u65 u66 u67 u68 u69 u70 u71 u72 u73 u74 u75 u76 u77 u78 u79 u80 u81 u82 u83 u84 u85 u86 u87 u88 u89 u90 u91 u92 u93 u94 u95 u96 u97 u98 u99 u100 u101 u102 u103 u104 u105 u106 u107 u108 u109 u110 u111 u112 u113 u114 u115 u116 u117 u118 u119 u120 u121 u122 u123 u124 u125 u126 u127 u128 u129 u130 u131 u132 u133 u134 u135 u136 u137 u138 u139 u140 u141 u142 u143 u144 u145 u146 u147 u148 u149 u150 u151 u152 u153 u154 u155 u156 u157 u158 u159 u160 u161 u162 u163 u164 u165 u166 u167 u168 u169 u170 u171 u172 u173 u174 u175 u176 u177 u178 u179 u180 u181 u182 u183 u184 u185 u186 u187 u188 u189 u190 u191 u192 u193 u194 : Value}
    (HK : Hid (OjRK W N dp bo ap cp r u0 u1 u2 u3 u8 u9 u10 u23 u24 u25 u26 u27 u28 u29 u30 u31 u32 u33 u34 u35 u36 u37 u38 u39 u40 u41 u42 u43 u44 u45 u46 u47 u48 u49 u50 K)) (hN7 : N ≤ 7)
    (HC : Hid (OjC W N dp bo ap cp (.slice (some ⟨g14, 0, none⟩) N N) wr)) :
    Code.wp Try.prog (codeAt [1, 1, 1, 1, 1, 1, 0, 1, 0, 0, 1, 0, 0, 1, 1, 1, 1, 1] (Try.f4.body.getD .skip)) (Exit.inBlock 3 (Exit.then K (Exit.then NN (Exit.inBlock 2 (Exit.then K2 (bodyPost Try.prog Try.f4 P)))))) ⟨List.toArray (u0 :: u1 :: u2 :: u3 :: u4 :: .int .i64 (N : Int) :: dp :: .slice ap N cp :: u8 :: u9 :: u10 :: .int .i64 (r : Int) :: u12 :: u13 :: .slice (some ⟨g14, 0, none⟩) N N :: u15 :: u16 :: u17 :: u18 :: u19 :: u20 :: u21 :: u22 :: u23 :: u24 :: u25 :: u26 :: u27 :: u28 :: u29 :: u30 :: u31 :: u32 :: u33 :: u34 :: u35 :: u36 :: u37 :: u38 :: u39 :: u40 :: u41 :: u42 :: u43 :: u44 :: u45 :: u46 :: u47 :: u48 :: u49 :: u50 :: u51 :: u52 :: u53 :: u54 :: u55 :: u56 :: u57 :: u58 :: u59 :: u60 :: u61 :: u62 :: u63 :: u64 :: u65 :: u66 :: u67 :: u68 :: u69 :: u70 :: u71 :: u72 :: u73 :: u74 :: u75 :: u76 :: u77 :: u78 :: u79 :: u80 :: u81 :: u82 :: u83 :: u84 :: u85 :: u86 :: u87 :: u88 :: u89 :: u90 :: u91 :: u92 :: u93 :: u94 :: u95 :: u96 :: u97 :: u98 :: u99 :: u100 :: u101 :: u102 :: u103 :: u104 :: u105 :: u106 :: u107 :: u108 :: u109 :: u110 :: u111 :: u112 :: u113 :: u114 :: u115 :: u116 :: u117 :: u118 :: u119 :: u120 :: u121 :: u122 :: u123 :: u124 :: u125 :: u126 :: u127 :: u128 :: u129 :: u130 :: u131 :: u132 :: u133 :: u134 :: u135 :: u136 :: u137 :: u138 :: u139 :: u140 :: u141 :: u142 :: u143 :: u144 :: u145 :: u146 :: u147 :: u148 :: u149 :: u150 :: u151 :: u152 :: u153 :: u154 :: u155 :: u156 :: u157 :: u158 :: u159 :: u160 :: u161 :: u162 :: u163 :: u164 :: u165 :: u166 :: u167 :: u168 :: u169 :: u170 :: u171 :: u172 :: u173 :: u174 :: u175 :: u176 :: u177 :: u178 :: u179 :: u180 :: u181 :: u182 :: u183 :: u184 :: u185 :: u186 :: u187 :: u188 :: u189 :: u190 :: u191 :: u192 :: u193 :: u194 :: []), []⟩ wr := by
  conv => arg 2; whnf
  obtain ⟨o, x, ds, R, had, hji, hhad, hrw, hpt, st⟩ := HC.out
  obtain ⟨wf, hwf⟩ : ∃ z, z = wr := ⟨_, rfl⟩
  rw [← hwf] at st
  have HJ := Lib.hid hji
  have HH := Lib.hid hhad
  have HRW := Lib.hid hrw
  have HPT := Lib.hid hpt
  have ST1 := Lib.hid st
  have GF := Lib.hid (show Gr wf wr from hwf ▸ Fr.refl _ _)
  clear hji hhad hrw hpt st HC hwf
  obtain ⟨iv_, hv1, hv2, hv3⟩ := info_pair Try.zeroView
  go_wp2_with fail
  generalize wr = wr1 at GF ⊢
  go_loopw [20] (fun iv wr => ∃ i : Nat, iv = .int .i64 i ∧ i ≤ N ∧ Gr wf wr) (fun iv _ => N - (intOf iv).toNat)
  case atStart => exact ⟨0, rfl, Nat.zero_le _, GF.out⟩
  case round =>
    obtain ⟨i, rfl, hi, gi⟩ := hrel
    have GI := Lib.hid gi
    clear gi GF
    by_cases hiN : i < N
    · have d1 : decide ((i : Int) < (N : Int)) = true := decide_eq_true (by omega)
      have ST2 := Lib.hid (ST1.out.gr GI.out)
      obtain ⟨pb, po, rfl, hcl⟩ := (ST2.out.row _ HPT.out).cell i _ (ptrL_get hiN)
      have q1 := (ST2.out.row _ HPT.out).le
      have q2 := (ST2.out.row _ HPT.out).max
      simp only at q1 q2
      have CV := Lib.hid (ovView_any (o i) (x i) dp ds W (fun _ => True) _ _ R (bo i) wr (ST2.out.ovIn (X := []) hiN (HRW.out i hiN)))
      go_upto_region 45 with fail
      go_wp2_with fail
      refine CV.out.mono ?_
      rintro e w2 ⟨rfl, f2⟩
      go_wp2_with (refine wpList_fresh (vs := (o i).h.v.arr (x i).x.x) hv1 hv2 Try.infoView (by rfl) (by rw [← Array.all_toList]; rfl) (by rfl) (by rfl) ?_)
      intro w3 f3 b3 g3
      obtain ⟨q21, hq21⟩ : ∃ q, q = w2.heap.size := ⟨_, rfl⟩
      rw [← hq21] at b3 g3 ⊢
      have G3 := Lib.hid (Gr.trans GI.out (Gr.trans f2 f3))
      have ST3 := Lib.hid (ST1.out.gr G3.out)
      have B3 := Lib.hid b3
      clear f2 f3 b3 g3 hq21 hcl CV ST2
      go_wp2_with fail
      go_loopw [22] (fun iv wr => ∃ t : Nat, iv = .int .i64 t ∧ t ≤ N ∧ Gr w3 wr) (fun iv _ => N - (intOf iv).toNat)
      case atStart => exact ⟨0, rfl, Nat.zero_le _, Fr.refl _ _⟩
      case round =>
        obtain ⟨t, rfl, ht, gt⟩ := hrel
        have GT := Lib.hid gt
        clear gt
        by_cases htN : t < N
        · have d2 : decide ((t : Int) < (N : Int)) = true := decide_eq_true (by omega)
          have ST7 := Lib.hid (ST3.out.gr GT.out)
          have B7 := Lib.hid (blk_keep GT.out B3.out (fun h => h))
          have CA := Lib.hid (fun w (f : Gr wr w) => setHas_any (x i).x.x.aa (x i).x.x.ac (o i).h.v.act (o i).h.v.am ((t : Int) + 1) w ((ST7.out.gr f).row _ (HRW.out i hiN _ (at_ 1 rfl))) (HJ.out.inv.ok i hiN).h.v.act)
          have CB := Lib.hid (fun w (f : Gr wr w) => setHas_any (x t).x.x.aa (x t).x.x.ac (o t).h.v.act (o t).h.v.am ((i : Int) + 1) w ((ST7.out.gr f).row _ (HRW.out t htN _ (at_ 1 rfl))) (HJ.out.inv.ok t htN).h.v.act)
          have CW := Lib.hid (fun w (f : Gr wr w) => ovView_any (o t) (x t) dp ds W (fun _ => True) _ _ R (bo t) w ((ST7.out.gr f).ovIn (X := []) htN (HRW.out t htN)))
          have hsym : has (o t).h.v.act ((i : Int) + 1) = has (o i).h.v.act ((t : Int) + 1) := by
            have h := HJ.out.rest hiN htN
            cases h1 : has (o i).h.v.act ((t : Int) + 1)
            · exact (has_no _ _).2 (fun e => (has_no _ _).1 h1 (h.2 e))
            · exact (has_iff _ _).2 (h.1 ((has_iff _ _).1 h1))
          rw [hsym] at CB
          obtain ⟨c1_, hc1⟩ : ∃ c, c = has (o i).h.v.act ((t : Int) + 1) := ⟨_, rfl⟩
          rw [← hc1] at CA CB
          clear hc1 hsym
          have HFD : ∀ w, Sem.run Try.prog (Instr.field 29 (.agg ((o t).h.v.arr (x t).x.x)) 1) w = .ok (.agg #[.slice (x t).x.x.aa (o t).h.v.act.length (x t).x.x.ac, .int .i64 (o t).h.v.am]) w := viewField _ _
          go_upto_region 49 with fail
          cases c1_
          case false =>
            haveI : Nonempty (WC (Gr wr)) := ⟨⟨wr, Fr.refl _ _⟩⟩
            have z1 : ∀ z2 : WC (Gr wr), z2.val.cell? ⟨q21, 1, none⟩ = some (.slice (x i).x.x.aa (o i).h.v.act.length (x i).x.x.ac) := fun z2 => z2.ok.cell ((by rw [Lib.cell_of_heap B7.out]; rfl)) (fun h => h)
            have z2 : ∀ z2 : WC (Gr wr), z2.val.cell? ⟨q21, 2, none⟩ = some (.int .i64 (o i).h.v.am) := fun z2 => z2.ok.cell ((by rw [Lib.cell_of_heap B7.out]; rfl)) (fun h => h)
            have z3 : ∀ z2 : WC (Gr wr), z2.val.cell? ⟨pb, po + t, none⟩ = some (.pointer (some ⟨bo t, 0, none⟩)) := fun z2 => z2.ok.cell ((rowAtR ST7.out HPT.out (ptrL_get htN))) (fun h => h)
            refine wp_region_plan [4, 9, 13] (Plan.seq [0, 1, 2, 3, 4, 5, 6, 7, 8, 9, 10, 11, 12, 13, 14] .done) (fun w' => ∃ z' : WC (Gr wr), w' = z'.val) (by kernel_rfl) (by kernel_rfl) (fun c a w d v h => by cases d <;> exact h) (fun c a w d v h => by cases d <;> exact h) ⟨⟨wr.drew, (Fr.refl _ _).drew⟩, rfl⟩ ?_
            simp only [Plan.seq, List.foldr]
            refine wpV_q (by simp only [List.getElem?_toArray, List.getElem?_cons_zero] <;> rfl) (by rfl) (by rfl) ?_
            go_big_quiet_step (fail)
            refine wpQuiet_nil ?_
            repeat (refine wpV_q (by simp only [List.getElem?_toArray, List.getElem?_cons_succ, List.getElem?_cons_zero] <;> rfl) (by rfl) (by rfl) ?_; go_big_quiet_step (fail); refine wpQuiet_nil ?_)
            refine wpV_e (by simp only [List.getElem?_toArray, List.getElem?_cons_succ, List.getElem?_cons_zero] <;> rfl) (by rfl) ?_
            go_wp2_with fail
            refine (CA.out _ (show Gr wr wr.drew from (Fr.refl _ _).drew)).mono ?_
            rintro e w7 ⟨rfl, f2⟩
            have Fw7 : Gr wr w7 := Gr.trans (show Gr wr wr.drew from (Fr.refl _ _).drew) f2
            go_wp2_with fail
            refine ⟨⟨⟨w7, Fw7⟩, rfl⟩, ?_⟩
            repeat (refine wpV_q (by simp only [List.getElem?_toArray, List.getElem?_cons_succ, List.getElem?_cons_zero] <;> rfl) (by rfl) (by rfl) ?_; go_big_quiet_step (fail); refine wpQuiet_nil ?_)
            refine wpV_e (by simp only [List.getElem?_toArray, List.getElem?_cons_succ, List.getElem?_cons_zero] <;> rfl) (by rfl) ?_
            go_wp2_with fail
            refine (CW.out _ Fw7).mono ?_
            rintro e w8 ⟨rfl, f3⟩
            have Fw8 : Gr wr w8 := Gr.trans Fw7 f3
            go_wp2_with fail
            refine ⟨⟨⟨w8, Fw8⟩, rfl⟩, ?_⟩
            repeat (refine wpV_q (by simp only [List.getElem?_toArray, List.getElem?_cons_succ, List.getElem?_cons_zero] <;> rfl) (by rfl) (by rfl) ?_; go_big_quiet_step (fail); refine wpQuiet_nil ?_)
            refine wpV_e (by simp only [List.getElem?_toArray, List.getElem?_cons_succ, List.getElem?_cons_zero] <;> rfl) (by rfl) ?_
            go_wp2_with fail
            refine (CB.out _ Fw8).mono ?_
            rintro e w9 ⟨rfl, f4⟩
            have Fw9 : Gr wr w9 := Gr.trans Fw8 f4
            go_wp2_with fail
            refine ⟨⟨⟨w9, Fw9⟩, rfl⟩, ?_⟩
            repeat (refine wpV_q (by simp only [List.getElem?_toArray, List.getElem?_cons_succ, List.getElem?_cons_zero] <;> rfl) (by rfl) (by rfl) ?_; go_big_quiet_step (fail); refine wpQuiet_nil ?_)
            clear f2 f3 f4 Fw7 Fw8
            refine wpV_done ?_
            have FZ := Lib.hid Fw9
            clear this z1 z2 z3
            go_wp2_with fail
            go_roundw
            case rel => exact ⟨t + 1, by go_num, htN, Gr.trans GT.out FZ.out⟩
            case measure => simp [intOf]; omega
          case true =>
            haveI : Nonempty (WC (Gr wr)) := ⟨⟨wr, Fr.refl _ _⟩⟩
            have z1 : ∀ z2 : WC (Gr wr), z2.val.cell? ⟨q21, 1, none⟩ = some (.slice (x i).x.x.aa (o i).h.v.act.length (x i).x.x.ac) := fun z2 => z2.ok.cell ((by rw [Lib.cell_of_heap B7.out]; rfl)) (fun h => h)
            have z2 : ∀ z2 : WC (Gr wr), z2.val.cell? ⟨q21, 2, none⟩ = some (.int .i64 (o i).h.v.am) := fun z2 => z2.ok.cell ((by rw [Lib.cell_of_heap B7.out]; rfl)) (fun h => h)
            have z3 : ∀ z2 : WC (Gr wr), z2.val.cell? ⟨pb, po + t, none⟩ = some (.pointer (some ⟨bo t, 0, none⟩)) := fun z2 => z2.ok.cell ((rowAtR ST7.out HPT.out (ptrL_get htN))) (fun h => h)
            refine wp_region_plan [4, 9, 13] (Plan.seq [0, 1, 2, 3, 4, 5, 6, 7, 8, 9, 10, 11, 12, 13, 14] .done) (fun w' => ∃ z' : WC (Gr wr), w' = z'.val) (by kernel_rfl) (by kernel_rfl) (fun c a w d v h => by cases d <;> exact h) (fun c a w d v h => by cases d <;> exact h) ⟨⟨wr.drew, (Fr.refl _ _).drew⟩, rfl⟩ ?_
            simp only [Plan.seq, List.foldr]
            refine wpV_q (by simp only [List.getElem?_toArray, List.getElem?_cons_zero] <;> rfl) (by rfl) (by rfl) ?_
            go_big_quiet_step (fail)
            refine wpQuiet_nil ?_
            repeat (refine wpV_q (by simp only [List.getElem?_toArray, List.getElem?_cons_succ, List.getElem?_cons_zero] <;> rfl) (by rfl) (by rfl) ?_; go_big_quiet_step (fail); refine wpQuiet_nil ?_)
            refine wpV_e (by simp only [List.getElem?_toArray, List.getElem?_cons_succ, List.getElem?_cons_zero] <;> rfl) (by rfl) ?_
            go_wp2_with fail
            refine (CA.out _ (show Gr wr wr.drew from (Fr.refl _ _).drew)).mono ?_
            rintro e w7 ⟨rfl, f2⟩
            have Fw7 : Gr wr w7 := Gr.trans (show Gr wr wr.drew from (Fr.refl _ _).drew) f2
            go_wp2_with fail
            refine ⟨⟨⟨w7, Fw7⟩, rfl⟩, ?_⟩
            repeat (refine wpV_q (by simp only [List.getElem?_toArray, List.getElem?_cons_succ, List.getElem?_cons_zero] <;> rfl) (by rfl) (by rfl) ?_; go_big_quiet_step (fail); refine wpQuiet_nil ?_)
            refine wpV_e (by simp only [List.getElem?_toArray, List.getElem?_cons_succ, List.getElem?_cons_zero] <;> rfl) (by rfl) ?_
            go_wp2_with fail
            refine (CW.out _ Fw7).mono ?_
            rintro e w8 ⟨rfl, f3⟩
            have Fw8 : Gr wr w8 := Gr.trans Fw7 f3
            go_wp2_with fail
            refine ⟨⟨⟨w8, Fw8⟩, rfl⟩, ?_⟩
            repeat (refine wpV_q (by simp only [List.getElem?_toArray, List.getElem?_cons_succ, List.getElem?_cons_zero] <;> rfl) (by rfl) (by rfl) ?_; go_big_quiet_step (fail); refine wpQuiet_nil ?_)
            refine wpV_e (by simp only [List.getElem?_toArray, List.getElem?_cons_succ, List.getElem?_cons_zero] <;> rfl) (by rfl) ?_
            go_wp2_with fail
            refine (CB.out _ Fw8).mono ?_
            rintro e w9 ⟨rfl, f4⟩
            have Fw9 : Gr wr w9 := Gr.trans Fw8 f4
            go_wp2_with fail
            refine ⟨⟨⟨w9, Fw9⟩, rfl⟩, ?_⟩
            repeat (refine wpV_q (by simp only [List.getElem?_toArray, List.getElem?_cons_succ, List.getElem?_cons_zero] <;> rfl) (by rfl) (by rfl) ?_; go_big_quiet_step (fail); refine wpQuiet_nil ?_)
            clear f2 f3 f4 Fw7 Fw8
            refine wpV_done ?_
            have FZ := Lib.hid Fw9
            clear this z1 z2 z3
            go_wp2_with fail
            go_roundw
            case rel => exact ⟨t + 1, by go_num, htN, Gr.trans GT.out FZ.out⟩
            case measure => simp [intOf]; omega
        · obtain rfl : t = N := by omega
          have ST8 := Lib.hid (ST3.out.gr GT.out)
          have yh : wr.cell? ⟨g14, i, none⟩ = some (.bool true) := by
            have h := (ST8.out.ownCell 0 rfl i (bools_get hiN)).1
            rw [HH.out i hiN] at h
            exact h
          go_wp2_with fail
          go_roundw
          case rel => exact ⟨i + 1, by go_num, hiN, Gr.trans G3.out GT.out⟩
          case measure => simp [intOf]; omega
    · obtain rfl : i = N := by omega
      go_wp2_with fail
      exact HK.out _ _ _ _ _ _ _ _ _ _ _ _ _ _ _ _ _ _ _ _ _ _ _ _ _ _ _ _ _ _ _ _ _ _ _ _ _ _ _ _ _ _ _ _ _ _ _ _ _ _ _ _ _ _ _ _ _ _ _ _ _ _ _ _ _ _ _ _ _ _ _ _ _ _ _ _ _ _ _ _ _ _ _ _ _ _ _ _ _ _ _ _ _ _ _ _ _ _ _ _ _ _ _ _ _ _ _ _ _ _ _ _ _ _ _ _ _ _ _ _ _ _ _ _ _ _ _ _ _ _ _ _ _ _ _ _ _ _ _ _ _ _ _ _ _ _ _ _ _ _ _ _ _ _ _ _ _ ⟨o, x, ds, R, HJ.out, HRW.out, HPT.out, (ST1.out.gr GI.out).less (List.Sublist.cons _ (List.Sublist.refl _)) (fun _ h => h)⟩
theorem froms_snoc (E : List En) (i : Nat) (y : Om) : froms (E ++ [(i, y)]) = froms E ++ [.int .i64 ((i : Int) + 1)] := by unfold froms; rw [List.map_append]; rfl
theorem map_take_snoc {i t : Nat} {l : List Om} (h : t < l.length) : (l.take (t + 1)).map (fun y => (i, y)) = (l.take t).map (fun y => (i, y)) ++ [(i, l[t])] := by rw [List.take_succ_eq_append_getElem h, List.map_append]; rfl
theorem en_cell {E : List En} {k t : Nat} (h : k < E.length) {u : Value} (ht : (Om.cells (E[k]).2)[t]? = some u) : (oms (E.map Prod.snd))[k * 8 + t]? = some u := by
  have ht8 : t < 8 := by
    have := (List.getElem?_eq_some_iff.1 ht).1
    exact this
  have h2 : k < (E.map Prod.snd).length := by rw [List.length_map]; exact h
  have h3 := flatMap_get Om.cells 8 (fun _ => rfl) (E.map Prod.snd) k t h2 ht8
  rw [List.getElem_map] at h3
  exact h3.trans ht
theorem froms_get {E : List En} {k : Nat} (h : k < E.length) : (froms E)[k]? = some (.int .i64 (((E[k]).1 : Int) + 1)) := by
  unfold froms
  rw [List.getElem?_map, List.getElem?_eq_getElem h]
  rfl
theorem enRange {W : World} {O : Nat → Prop} {q : Value} {ds : List Int} {B : List Blk} {L : List Ow} {R : List Rw} {w : World} {g c k : Nat} {E : List En} {y : Om} {e : TypeId} (h : Sta W O q ds B L R w) {il : Nat} (hL : L[il]? = some ⟨e, 8, .slice (some ⟨g, 0, none⟩) E.length c, E.length, oms (E.map Prod.snd)⟩) (hk : k < E.length) (hy : y = (E[k]).2) :
    w.rangeAt g (k * 8 + 1) [.int .i64 y.m.kind, .int .i64 y.m.node, .int .i64 y.m.walk, .bool y.m.high, .slice y.na y.m.nodes.length y.nc, .slice none 0 0, .slice none 0 0] := by
  subst hy
  intro i u hi
  have h1 : (Om.cells (E[k]).2)[1 + i]? = some u := by
    rw [Nat.add_comm]
    exact hi
  have h2 := (h.ownCell il hL (k * 8 + (1 + i)) (en_cell hk h1)).1
  rw [← Nat.add_assoc] at h2
  exact h2
set_option maxHeartbeats 16000000 in
set_option maxRecDepth 100000 in
theorem oj_takes {g14 : Nat} {W : World} {N : Nat} {dp : Value} {bo : Nat → Nat} {ap : Option Addr} {cp : Nat} {r : Nat} {u0 u1 u2 u3 u8 u9 u10 u23 u24 u25 u26 u27 u28 u29 u30 u31 u32 u33 u34 u35 u36 u37 u38 u39 u40 u41 u42 u43 u44 u45 u46 u47 u48 u49 u50 : Value} {K NN K2 : Act → World → Prop} {P : Ending → World → Prop} {wr : World} {u4 u12 u13 u15 u16 u18 u19 u20 u21 u22 u51 u52 u53 u54 u55 u56 u57 u58 u59 u60 u61 u62 u63 u64 u65 u66 u67 u68 u69 u70 u71 u72 u73 u74 u75 u76 u77 u78 u79 u80 u81 u82 u83 u84 u85 u86 u87 u88 u89 u90 u91 u92 u93 u94 u95 u96 u97 u98 u99 u100 u101 u102 u103 u104 u105 u106 u107 u108 u109 u110 u111 u112 u113 u114 u115 u116 u117 u118 u119 u120 u121 u122 u123 u124 u125 u126 u127 u128 u129 u130 u131 u132 u133 u134 u135 u136 u137 u138 u139 u140 u141 u142 u143 u144 u145 u146 u147 u148 u149 u150 u151 u152 u153 u154 u155 u156 u157 u158 u159 u160 u161 u162 u163 u164 u165 u166 u167 u168 u169 u170 u171 u172 u173 u174 u175 u176 u177 u178 u179 u180 u181 u182 u183 u184 u185 u186 u187 u188 u189 u190 u191 u192 u193 u194 : Value}
    (HK : Hid (OjRK W N dp bo ap cp r u0 u1 u2 u3 u8 u9 u10 u23 u24 u25 u26 u27 u28 u29 u30 u31 u32 u33 u34 u35 u36 u37 u38 u39 u40 u41 u42 u43 u44 u45 u46 u47 u48 u49 u50 K)) (hN7 : N ≤ 7)
    (HKP : Hid (OjK W N dp bo ap cp 0 u12 u13 (.slice (some ⟨g14, 0, none⟩) N N) wr)) :
    Code.wp Try.prog (codeAt [1, 1, 1, 1, 1, 1, 0, 1, 0, 0, 1, 0, 0, 1, 1, 1, 1, 0, 1] (Try.f4.body.getD .skip)) (Exit.then (fun a w => Code.wp Try.prog (codeAt [1, 1, 1, 1, 1, 1, 0, 1, 0, 0, 1, 0, 0, 1, 1, 1, 1, 1] (Try.f4.body.getD .skip)) (Exit.inBlock 3 (Exit.then K (Exit.then NN (Exit.inBlock 2 (Exit.then K2 (bodyPost Try.prog Try.f4 P)))))) a w) (Exit.inBlock 3 (Exit.then K (Exit.then NN (Exit.inBlock 2 (Exit.then K2 (bodyPost Try.prog Try.f4 P))))))) ⟨List.toArray (u0 :: u1 :: u2 :: u3 :: u4 :: .int .i64 (N : Int) :: dp :: .slice ap N cp :: u8 :: u9 :: u10 :: .int .i64 (r : Int) :: u12 :: u13 :: .slice (some ⟨g14, 0, none⟩) N N :: u15 :: u16 :: .int .i64 0 :: u18 :: u19 :: u20 :: u21 :: u22 :: u23 :: u24 :: u25 :: u26 :: u27 :: u28 :: u29 :: u30 :: u31 :: u32 :: u33 :: u34 :: u35 :: u36 :: u37 :: u38 :: u39 :: u40 :: u41 :: u42 :: u43 :: u44 :: u45 :: u46 :: u47 :: u48 :: u49 :: u50 :: u51 :: u52 :: u53 :: u54 :: u55 :: u56 :: u57 :: u58 :: u59 :: u60 :: u61 :: u62 :: u63 :: u64 :: u65 :: u66 :: u67 :: u68 :: u69 :: u70 :: u71 :: u72 :: u73 :: u74 :: u75 :: u76 :: u77 :: u78 :: u79 :: u80 :: u81 :: u82 :: u83 :: u84 :: u85 :: u86 :: u87 :: u88 :: u89 :: u90 :: u91 :: u92 :: u93 :: u94 :: u95 :: u96 :: u97 :: u98 :: u99 :: u100 :: u101 :: u102 :: u103 :: u104 :: u105 :: u106 :: u107 :: u108 :: u109 :: u110 :: u111 :: u112 :: u113 :: u114 :: u115 :: u116 :: u117 :: u118 :: u119 :: u120 :: u121 :: u122 :: u123 :: u124 :: u125 :: u126 :: u127 :: u128 :: u129 :: u130 :: u131 :: u132 :: u133 :: u134 :: u135 :: u136 :: u137 :: u138 :: u139 :: u140 :: u141 :: u142 :: u143 :: u144 :: u145 :: u146 :: u147 :: u148 :: u149 :: u150 :: u151 :: u152 :: u153 :: u154 :: u155 :: u156 :: u157 :: u158 :: u159 :: u160 :: u161 :: u162 :: u163 :: u164 :: u165 :: u166 :: u167 :: u168 :: u169 :: u170 :: u171 :: u172 :: u173 :: u174 :: u175 :: u176 :: u177 :: u178 :: u179 :: u180 :: u181 :: u182 :: u183 :: u184 :: u185 :: u186 :: u187 :: u188 :: u189 :: u190 :: u191 :: u192 :: u193 :: u194 :: []), []⟩ wr := by
  conv => arg 2; whnf
  go_wp2_with fail
  generalize wr = wr0 at HKP ⊢
  go_loopw [17, 12, 13] (fun iv s12 s13 wr => ∃ k : Nat, iv = .int .i64 k ∧ OjK W N dp bo ap cp k s12 s13 (.slice (some ⟨g14, 0, none⟩) N N) wr) (fun iv _ _ _ => 176 - (intOf iv).toNat)
  case atStart => exact ⟨0, rfl, HKP.out⟩
  case round =>
    obtain ⟨k, rfl, hst⟩ := hrel
    obtain ⟨o, x, ds, R, E, had, hkE, hkp, hrw, hpt, her, st⟩ := hst
    have HKK := Lib.hid hkp
    have HRW := Lib.hid hrw
    have HPT := Lib.hid hpt
    have HER := Lib.hid her
    have ST1 := Lib.hid st
    have hE : E.length ≤ 175 := by
      have h1 := hkp.len
      have h2 : (ofE (E.drop k)).length = E.length - k := by unfold ofE; rw [List.length_map, List.length_drop]
      omega
    clear hkp hrw hpt her st HKP
    by_cases hk : k < E.length
    · have hd := ofE_drop hk
      obtain ⟨a, ha⟩ : ∃ a, a = (E[k]).1 := ⟨_, rfl⟩
      obtain ⟨y, hy⟩ : ∃ y, y = (E[k]).2 := ⟨_, rfl⟩
      have HA := Lib.hid ha
      have HY := Lib.hid hy
      have HKD := HKK.out
      rw [hd, ← ha, ← hy] at HKD
      have HKQ := Lib.hid HKD
      have HYR := Lib.hid (show y.row ∈ R from hy ▸ HER.out _ (List.getElem_mem hk))
      obtain ⟨haN, b, hbN, hab, hwho, hmok⟩ := HKD.ji.head
      have HMS := Lib.hid hmok
      obtain ⟨g12, c12, rfl⟩ := ST1.out.ownForm 0 rfl (by omega)
      obtain ⟨g13, c13, rfl⟩ := ST1.out.ownForm 1 rfl (by omega)
      obtain ⟨pb, po, rfl, hcl⟩ := (ST1.out.row _ HPT.out).cell b _ (ptrL_get hbN)
      have q1 := (ST1.out.row _ HPT.out).le
      have q2 := (ST1.out.row _ HPT.out).max
      simp only at q1 q2
      obtain ⟨a_, c_, hv_, hs_, -, -⟩ := SlA.of_own (ST1.out.ownAt 0 rfl)
      injection hv_ with e1_ e2_ e3_
      subst e1_ e3_
      obtain ⟨a_, c_, hv_, ht_, -, -⟩ := SlA.of_own (ST1.out.ownAt 1 rfl)
      injection hv_ with e1_ e2_ e3_
      subst e1_ e3_
      have q5 := ht_.le
      have q6 := ht_.max
      have q3 := hs_.le
      have q4 := hs_.max
      clear hs_ ht_ hd ha hy HKD hmok
      have d1 : decide ((k : Int) < (E.length : Int)) = true := decide_eq_true (by omega)
      have d2 : decide ((k : Int) < 4000) = true := decide_eq_true (by omega)
      have y0 : wr.cell? ⟨g12, k * 8, none⟩ = some (.int .i64 ((b : Int) + 1)) := (ST1.out.ownCell 0 rfl (k * 8) (v := .int .i64 ((b : Int) + 1)) (en_cell (t := 0) hk (by rw [← HY.out, ← hwho]; rfl))).1
      have d3 : decide ((b : Int) + 1 < 1) = false := decide_eq_false (by omega)
      have d4 : decide ((N : Int) < (b : Int) + 1) = false := decide_eq_false (by omega)
      go_upto_region 35 with fail
      clear y0 d1 d2 d3 d4 hcl
      obtain ⟨wd, hwd⟩ : ∃ x, x = wr.drew := ⟨_, rfl⟩
      have HWD := Lib.hid hwd
      have ST2 := Lib.hid (show Sta W (fun _ => True) dp ds (ovB N bo o x) [⟨55, 8, .slice (some ⟨g12, 0, none⟩) E.length c12, E.length, oms (E.map Prod.snd)⟩, ⟨3, 1, .slice (some ⟨g13, 0, none⟩) E.length c13, E.length, froms E⟩, ⟨4, 1, .slice (some ⟨g14, 0, none⟩) N N, N, bools had N⟩] (R) wd from hwd ▸ ST1.out.gr ((Fr.refl _ _).drew))
      clear ST1 hwd
      haveI : Nonempty (WC (fun w => w.cell? ⟨pb, po + b, none⟩ = some (.pointer (some ⟨bo b, 0, none⟩)) ∧ w.cell? ⟨g13, k, none⟩ = some (.int .i64 ((a : Int) + 1)) ∧ w.rangeAt g12 (k * 8 + 1) [.int .i64 y.m.kind, .int .i64 y.m.node, .int .i64 y.m.walk, .bool y.m.high, .slice y.na y.m.nodes.length y.nc, .slice none 0 0, .slice none 0 0])) := ⟨⟨wd, ⟨(rowAtR ST2.out HPT.out (ptrL_get hbN)), (ST2.out.ownCell 1 rfl k (by rw [HA.out]; exact froms_get hk)).1, (enRange (il := 0) ST2.out rfl hk HY.out)⟩⟩⟩
      have z1 : ∀ z : WC (fun w => w.cell? ⟨pb, po + b, none⟩ = some (.pointer (some ⟨bo b, 0, none⟩)) ∧ w.cell? ⟨g13, k, none⟩ = some (.int .i64 ((a : Int) + 1)) ∧ w.rangeAt g12 (k * 8 + 1) [.int .i64 y.m.kind, .int .i64 y.m.node, .int .i64 y.m.walk, .bool y.m.high, .slice y.na y.m.nodes.length y.nc, .slice none 0 0, .slice none 0 0]), z.val.cell? ⟨pb, po + b, none⟩ = some (.pointer (some ⟨bo b, 0, none⟩)) := fun z => z.ok.1
      have z2 : ∀ z : WC (fun w => w.cell? ⟨pb, po + b, none⟩ = some (.pointer (some ⟨bo b, 0, none⟩)) ∧ w.cell? ⟨g13, k, none⟩ = some (.int .i64 ((a : Int) + 1)) ∧ w.rangeAt g12 (k * 8 + 1) [.int .i64 y.m.kind, .int .i64 y.m.node, .int .i64 y.m.walk, .bool y.m.high, .slice y.na y.m.nodes.length y.nc, .slice none 0 0, .slice none 0 0]), z.val.cell? ⟨g13, k, none⟩ = some (.int .i64 ((a : Int) + 1)) := fun z => z.ok.2.1
      refine wp_region_plan [15] (Plan.seq [0, 1, 2, 3, 4, 5, 6, 7, 8, 9, 10, 11, 12, 13, 14, 15, 16] .done) (fun w' => ∃ z : WC (fun w => w.cell? ⟨pb, po + b, none⟩ = some (.pointer (some ⟨bo b, 0, none⟩)) ∧ w.cell? ⟨g13, k, none⟩ = some (.int .i64 ((a : Int) + 1)) ∧ w.rangeAt g12 (k * 8 + 1) [.int .i64 y.m.kind, .int .i64 y.m.node, .int .i64 y.m.walk, .bool y.m.high, .slice y.na y.m.nodes.length y.nc, .slice none 0 0, .slice none 0 0]), w' = z.val) (by kernel_rfl) (by kernel_rfl) (fun c a w d v h => by cases d <;> exact h) (fun c a w d v h => by cases d <;> exact h) (by rw [← HWD.out]; exact ⟨⟨wd, ⟨(rowAtR ST2.out HPT.out (ptrL_get hbN)), (ST2.out.ownCell 1 rfl k (by rw [HA.out]; exact froms_get hk)).1, (enRange (il := 0) ST2.out rfl hk HY.out)⟩⟩, rfl⟩) ?_
      rw [← HWD.out]
      clear HWD
      have HDR := Lib.hid ST2.out.dr.range
      have CT := Lib.hid (ovTake_any (o b) (x b) ((a : Int) + 1) y.m.mq y.na y.nc dp ds W (fun _ => True) _ _ R (bo b) wd (ST2.out.ovIn (X := []) hbN (HRW.out b hbN)) (HKQ.out.ji.inv.ok b hbN) HYR.out (by have := HMS.out.walk; omega) (by have := HMS.out.len; omega))
      refine wpV_q (by simp only [List.getElem?_toArray, List.getElem?_cons_zero] <;> rfl) (by rfl) (by rfl) ?_
      go_big_quiet_step (fail)
      refine wpQuiet_nil ?_
      refine wpV_q (by simp only [List.getElem?_toArray, List.getElem?_cons_succ, List.getElem?_cons_zero] <;> rfl) (by rfl) (by rfl) ?_
      go_big_quiet_step (fail)
      refine wpQuiet_nil ?_
      refine wpV_q (by simp only [List.getElem?_toArray, List.getElem?_cons_succ, List.getElem?_cons_zero] <;> rfl) (by rfl) (by rfl) ?_
      go_big_quiet_step (fail)
      refine wpQuiet_nil ?_
      refine wpV_q (by simp only [List.getElem?_toArray, List.getElem?_cons_succ, List.getElem?_cons_zero] <;> rfl) (by rfl) (by rfl) ?_
      go_big_quiet_step (fail)
      refine wpQuiet_nil ?_
      refine wpV_q (by simp only [List.getElem?_toArray, List.getElem?_cons_succ, List.getElem?_cons_zero] <;> rfl) (by rfl) (by rfl) ?_
      go_big_quiet_step (fail)
      refine wpQuiet_nil ?_
      refine wpV_q (by simp only [List.getElem?_toArray, List.getElem?_cons_succ, List.getElem?_cons_zero] <;> rfl) (by rfl) (by rfl) ?_
      go_big_quiet_step (fail)
      refine wpQuiet_nil ?_
      refine wpV_q (by simp only [List.getElem?_toArray, List.getElem?_cons_succ, List.getElem?_cons_zero] <;> rfl) (by rfl) (by rfl) ?_
      go_big_quiet_step (fail)
      refine wpQuiet_nil ?_
      refine wpV_q (by simp only [List.getElem?_toArray, List.getElem?_cons_succ, List.getElem?_cons_zero] <;> rfl) (by rfl) (by rfl) ?_
      go_big_quiet_step (fail)
      refine wpQuiet_nil ?_
      refine wpV_q (by simp only [List.getElem?_toArray, List.getElem?_cons_succ, List.getElem?_cons_zero] <;> rfl) (by rfl) (by rfl) ?_
      go_big_quiet_step (fail)
      refine wpQuiet_nil ?_
      refine wpV_q (by simp only [List.getElem?_toArray, List.getElem?_cons_succ, List.getElem?_cons_zero] <;> rfl) (by rfl) (by rfl) ?_
      go_big_quiet_step (fail)
      refine wpQuiet_nil ?_
      refine wpV_q (by simp only [List.getElem?_toArray, List.getElem?_cons_succ, List.getElem?_cons_zero] <;> rfl) (by rfl) (by rfl) ?_
      go_big_quiet_step (fail)
      refine wpQuiet_nil ?_
      refine wpV_q (by simp only [List.getElem?_toArray, List.getElem?_cons_succ, List.getElem?_cons_zero] <;> rfl) (by rfl) (by rfl) ?_
      go_big_quiet_step (fail)
      refine wpQuiet_nil ?_
      refine wpV_q (by simp only [List.getElem?_toArray, List.getElem?_cons_succ, List.getElem?_cons_zero] <;> rfl) (by rfl) (by rfl) ?_
      go_big_quiet_step (fail)
      refine wpQuiet_nil ?_
      refine wpV_q (by simp only [List.getElem?_toArray, List.getElem?_cons_succ, List.getElem?_cons_zero] <;> rfl) (by rfl) (by rfl) ?_
      refine wpQuiet_loadH (by rfl) 53 _ (by rfl) g12 (k * 8 + 1) (by rfl) [.int .i64 y.m.kind, .int .i64 y.m.node, .int .i64 y.m.walk, .bool y.m.high, .slice y.na y.m.nodes.length y.nc, .slice none 0 0, .slice none 0 0] _ (fun w ⟨z, hz⟩ => hz ▸ z.ok.2.2) Try.underlying53 rfl Try.infoMsg7 ?_
      refine wpQuiet_nil ?_
      simp only [Act.put, List.setIfInBounds_toArray, List.set_cons_succ, List.set_cons_zero]
      refine wpV_q (by simp only [List.getElem?_toArray, List.getElem?_cons_succ, List.getElem?_cons_zero] <;> rfl) (by rfl) (by rfl) ?_
      go_big_quiet_step (fail)
      refine wpQuiet_nil ?_
      refine wpV_e (by simp only [List.getElem?_toArray, List.getElem?_cons_succ, List.getElem?_cons_zero] <;> rfl) (by rfl) ?_
      go_wp2_with fail
      refine CT.out.mono ?_
      rintro e w9 ⟨x', ov, l, hl, rfl, st⟩
      have HPT2 := Lib.hid (show (⟨some ⟨pb, po, none⟩, N, cp, ptrL bo N⟩ : Rw) ∈ (l.map Om.row) ++ orows (oTake (o b) ((a : Int) + 1) y.m.mq ds).1 x' R from List.mem_append.2 (.inr ((orows_app _ _ _ _).2 (.inr HPT.out))))
      have ST3 := Lib.hid (show Sta W (fun _ => True) dp (oTake (o b) ((a : Int) + 1) y.m.mq ds).2.2 (ovB N bo (upd o b (oTake (o b) ((a : Int) + 1) y.m.mq ds).1) (upd x b x')) [⟨55, 8, ov, l.length, oms l⟩, ⟨55, 8, .slice (some ⟨g12, 0, none⟩) E.length c12, E.length, oms (E.map Prod.snd)⟩, ⟨3, 1, .slice (some ⟨g13, 0, none⟩) E.length c13, E.length, froms E⟩, ⟨4, 1, .slice (some ⟨g14, 0, none⟩) N N, N, bools had N⟩] ((l.map Om.row) ++ orows (oTake (o b) ((a : Int) + 1) y.m.mq ds).1 x' R) w9 from st.ovOut hbN)
      have HL := Lib.hid hl
      clear st hl CT ST2
      go_wp2_with fail
      refine ⟨⟨⟨w9, ⟨(rowAtR ST3.out HPT2.out (ptrL_get hbN)), (ST3.out.ownCell 2 rfl k (by rw [HA.out]; exact froms_get hk)).1, (enRange (il := 1) ST3.out rfl hk HY.out)⟩⟩, rfl⟩, ?_⟩
      refine wpV_q (by simp only [List.getElem?_toArray, List.getElem?_cons_succ, List.getElem?_cons_zero] <;> rfl) (by rfl) (by rfl) ?_
      go_big_quiet_step (fail)
      refine wpQuiet_nil ?_
      refine wpV_done ?_
      clear z1 z2 this
      have HRW2 := Lib.hid (show OjRows N (upd o b (oTake (o b) ((a : Int) + 1) y.m.mq ds).1) (upd x b x') ((l.map Om.row) ++ orows (oTake (o b) ((a : Int) + 1) y.m.mq ds).1 x' R) from HRW.out.put (fun r h => List.mem_append.2 (.inr ((orows_app _ _ _ _).2 (.inl h)))) (fun r h => List.mem_append.2 (.inr ((orows_app _ _ _ _).2 (.inr h)))))
      have hpb : w9.cell? ⟨pb, po + b, none⟩ = some (.pointer (some ⟨bo b, 0, none⟩)) := rowAtR ST3.out HPT2.out (ptrL_get hbN)
      have CV := Lib.hid (ovView_any (upd o b (oTake (o b) ((a : Int) + 1) y.m.mq ds).1 b) (upd x b x' b) dp (oTake (o b) ((a : Int) + 1) y.m.mq ds).2.2 W (fun _ => True) _ _ ((l.map Om.row) ++ orows (oTake (o b) ((a : Int) + 1) y.m.mq ds).1 x' R) (bo b) w9 (ST3.out.ovIn (X := []) hbN (HRW2.out b hbN)))
      rw [upd_same, upd_same] at CV
      have HFD : ∀ w, Sem.run Try.prog (Instr.field 29 (.agg ((oTake (o b) ((a : Int) + 1) y.m.mq ds).1.h.v.arr x'.x.x)) 1) w = .ok (.agg #[.slice x'.x.x.aa (oTake (o b) ((a : Int) + 1) y.m.mq ds).1.h.v.act.length x'.x.x.ac, .int .i64 (oTake (o b) ((a : Int) + 1) y.m.mq ds).1.h.v.am]) w := viewField _ _
      obtain ⟨hv, hhv⟩ : ∃ v, v = had b := ⟨_, rfl⟩
      have HHV := Lib.hid hhv
      have yh : w9.cell? ⟨g14, b, none⟩ = some (.bool hv) := by rw [hhv]; exact (ST3.out.ownCell 3 rfl b (bools_get hbN)).1
      have zf := (ST3.out.ownCell 3 rfl b (bools_get hbN)).2
      clear hhv
      cases hv
      case true =>
        go_upto_region 37 with fail
        obtain ⟨w12, hw12⟩ : ∃ z, z = w9.setCell ⟨g14, b, none⟩ (.bool true) := ⟨_, rfl⟩
        have HBS := Lib.hid (bools_set had N b true)
        have ST10 := Lib.hid (show Sta W (fun _ => True) dp (oTake (o b) ((a : Int) + 1) y.m.mq ds).2.2 (ovB N bo (upd o b (oTake (o b) ((a : Int) + 1) y.m.mq ds).1) (upd x b x')) [⟨55, 8, ov, l.length, oms l⟩, ⟨55, 8, .slice (some ⟨g12, 0, none⟩) E.length c12, E.length, oms (E.map Prod.snd)⟩, ⟨3, 1, .slice (some ⟨g13, 0, none⟩) E.length c13, E.length, froms E⟩, ⟨4, 1, .slice (some ⟨g14, 0, none⟩) N N, N, bools (upd had b true) N⟩] ((l.map Om.row) ++ orows (oTake (o b) ((a : Int) + 1) y.m.mq ds).1 x' R) w12 from by
          rw [← HBS.out, hw12]
          exact ST3.out.ownPut 3 rfl b (by omega) (.bool true))
        rw [← hw12]
        have HSTEP := Lib.hid (HKQ.out.step haN hbN hab hwho HMS.out HDR.out (c := true) (fun h => (by first | rfl | exact decide_eq_true (List.length_pos_iff.2 (h.resolve_left (by rw [← HHV.out]; decide))))))
        clear hw12 HBS yh zf hpb CV HFD
        refine wp_region_lit ?_
        iterate 6 go_step
        have HLL := Lib.hid (show k + 1 + (E.length - (k + 1) + l.length) ≤ 175 from by
          have h1 := HSTEP.out.len
          rw [List.length_append, ← HL.out, ← ofE_from] at h1
          unfold ofE at h1
          simp only [List.length_map, List.length_drop] at h1
          omega)
        refine wpList_growJ (by rfl) _ _ 41 55 8 112 (.agg outZ) Try.underlying41 Try.infoOutB rfl (by decide) (by decide) (by rfl) ST10.out 1 0 rfl rfl (by rfl) (by rfl) (oms_one l) (by have h2 := HLL.out; omega) ?_
        intro v12 w13 hst
        obtain ⟨ra, rc, rfl, st2⟩ := hst.asRow 0 rfl
        have ST11 := Lib.hid (show Sta W (fun _ => True) dp (oTake (o b) ((a : Int) + 1) y.m.mq ds).2.2 (ovB N bo (upd o b (oTake (o b) ((a : Int) + 1) y.m.mq ds).1) (upd x b x')) [⟨55, 8, v12, E.length + l.length, oms (E.map Prod.snd) ++ oms l⟩, ⟨3, 1, .slice (some ⟨g13, 0, none⟩) E.length c13, E.length, froms E⟩, ⟨4, 1, .slice (some ⟨g14, 0, none⟩) N N, N, bools (upd had b true) N⟩] (⟨ra, l.length, rc, oms l⟩ :: (l.map Om.row) ++ orows (oTake (o b) ((a : Int) + 1) y.m.mq ds).1 x' R) w13 from st2)
        clear hst st2 ST10
        have hl1 : l.length ≤ rc := (ST11.out.rowAt 0 rfl).le
        have hl2 : rc ≤ 9223372036854775807 := (ST11.out.rowAt 0 rfl).max
        go_upto_region 39 with fail
        go_loopw [153, 13] (fun iv s13 wr => ∃ t : Nat, iv = .int .i64 t ∧ t ≤ l.length ∧ Sta W (fun _ => True) dp (oTake (o b) ((a : Int) + 1) y.m.mq ds).2.2 (ovB N bo (upd o b (oTake (o b) ((a : Int) + 1) y.m.mq ds).1) (upd x b x')) [⟨55, 8, v12, E.length + l.length, oms (E.map Prod.snd) ++ oms l⟩, ⟨3, 1, s13, E.length + t, froms (E ++ (l.take t).map (fun y => (b, y)))⟩, ⟨4, 1, .slice (some ⟨g14, 0, none⟩) N N, N, bools (upd had b true) N⟩] (⟨ra, l.length, rc, oms l⟩ :: (l.map Om.row) ++ orows (oTake (o b) ((a : Int) + 1) y.m.mq ds).1 x' R) wr) (fun iv _ _ => l.length - (intOf iv).toNat)
        case atStart => exact ⟨0, rfl, Nat.zero_le _, by rw [List.take_zero, List.map_nil, List.append_nil, Nat.add_zero]; exact ST11.out⟩
        case round =>
          obtain ⟨t, rfl, ht, st⟩ := hrel
          have ST12 := Lib.hid st
          clear st ST11
          by_cases htl : t < l.length
          · go_upto_region 40 with fail
            refine wp_region_lit ?_
            iterate 9 go_step
            obtain ⟨w14, hw14⟩ : ∃ y, y = wr.alloc (.cells #[.int .i64 ((b : Int) + 1)] 3) := ⟨_, rfl⟩
            obtain ⟨nb, hnb⟩ : ∃ q, q = wr.heap.size := ⟨_, rfl⟩
            rw [← hw14, ← hnb]
            have ST13 := Lib.hid (show Sta W (fun _ => True) dp (oTake (o b) ((a : Int) + 1) y.m.mq ds).2.2 (ovB N bo (upd o b (oTake (o b) ((a : Int) + 1) y.m.mq ds).1) (upd x b x')) [⟨3, 1, .slice (some ⟨nb, 0, none⟩) 1 1, 1, [.int .i64 ((b : Int) + 1)]⟩, ⟨55, 8, v12, E.length + l.length, oms (E.map Prod.snd) ++ oms l⟩, ⟨3, 1, u13, E.length + t, froms (E ++ (l.take t).map (fun y => (b, y)))⟩, ⟨4, 1, .slice (some ⟨g14, 0, none⟩) N N, N, bools (upd had b true) N⟩] (⟨ra, l.length, rc, oms l⟩ :: (l.map Om.row) ++ orows (oTake (o b) ((a : Int) + 1) y.m.mq ds).1 x' R) w14 from hw14 ▸ ST12.out.ownNew ((Fr.refl _ _).alloc _) (xs := [.int .i64 ((b : Int) + 1)]) (n := 1) (by rw [heap_alloc_if, if_pos hnb]) (Nat.le_of_eq hnb.symm) rfl (by decide))
            clear hw14 hnb ST12
            refine wpList_growT (by rfl) _ _ 25 3 1 8 (.int .i64 0) Try.underlying25 Try.infoint rfl (by decide) (by decide) (by rfl) ST13.out 2 rfl (by rfl) (by rfl) (own_add (ST13.out.ownAt 0 rfl)) (by rfl) rfl (by have h2 := HLL.out; omega) ?_
            intro v13 w15 hst
            have ST14 := Lib.hid (show Sta W (fun _ => True) dp (oTake (o b) ((a : Int) + 1) y.m.mq ds).2.2 (ovB N bo (upd o b (oTake (o b) ((a : Int) + 1) y.m.mq ds).1) (upd x b x')) [⟨55, 8, v12, E.length + l.length, oms (E.map Prod.snd) ++ oms l⟩, ⟨3, 1, v13, E.length + t + 1, froms (E ++ (l.take (t + 1)).map (fun y => (b, y)))⟩, ⟨4, 1, .slice (some ⟨g14, 0, none⟩) N N, N, bools (upd had b true) N⟩] (⟨ra, l.length, rc, oms l⟩ :: (l.map Om.row) ++ orows (oTake (o b) ((a : Int) + 1) y.m.mq ds).1 x' R) w15 from by
              rw [map_take_snoc htl, ← List.append_assoc, froms_snoc]
              exact hst.less (List.Sublist.cons _ (List.Sublist.refl _)) (fun _ h => h))
            obtain ⟨a7, c7, hv7, -, -, -⟩ := SlA.of_own (ST14.out.ownAt 1 rfl)
            subst hv7
            clear hst ST13
            go_wp2_with fail
            go_roundw
            case rel => exact ⟨t + 1, by go_num, htl, ST14.out⟩
            case measure => simp [intOf]; omega
          · obtain rfl : t = l.length := by omega
            have HO := Lib.hid (show OjK W N dp bo (some ⟨pb, po, none⟩) cp (k + 1) v12 u13 (.slice (some ⟨g14, 0, none⟩) N N) wr from by
              refine ⟨upd o b (oTake (o b) ((a : Int) + 1) y.m.mq ds).1, upd x b x', (oTake (o b) ((a : Int) + 1) y.m.mq ds).2.2, ⟨ra, l.length, rc, oms l⟩ :: (l.map Om.row) ++ orows (oTake (o b) ((a : Int) + 1) y.m.mq ds).1 x' R, E ++ l.map (fun y => (b, y)), upd had b true, by rw [List.length_append]; omega, ?_, fun i hi r hr => List.mem_cons_of_mem _ (HRW2.out i hi r hr), List.mem_cons_of_mem _ HPT2.out, fun e he => ?_, ?_⟩
              rotate_left
              · rcases List.mem_append.1 he with h | h
                · exact List.mem_cons_of_mem _ (List.mem_append.2 (.inr ((orows_app _ _ _ _).2 (.inr (HER.out e h)))))
                · obtain ⟨y, hy, rfl⟩ := List.mem_map.1 h
                  exact List.mem_cons_of_mem _ (List.mem_append.2 (.inl (List.mem_map.2 ⟨y, hy, rfl⟩)))
              · have h := ST12.out
                rw [List.take_length] at h
                rw [List.length_append, List.length_map, List.map_append, ← oms_app, List.map_map]
                rw [show (Prod.snd ∘ fun y : Om => (b, y)) = id from rfl, List.map_id]
                exact h
              · rw [List.drop_append_of_le_length (by omega), ofE_app, ofE_from, HL.out]
                exact HSTEP.out)
            have hk176 : k < 176 := by omega
            clear ST12
            go_wp2_with fail
            go_roundw
            case rel => exact ⟨k + 1, by go_num, HO.out⟩
            case measure => simp [intOf]; omega
      case false =>
        go_upto_region 36 with fail
        go_wp2_with fail
        refine CV.out.mono ?_
        rintro e w10 ⟨rfl, f10⟩
        have F10 := Lib.hid f10
        clear f10
        go_wp2_with fail
        refine (setLen_any _ _ _ _ _).mono ?_
        rintro e w11 ⟨rfl, f11⟩
        have ST4 := Lib.hid (ST3.out.gr (Gr.trans F10.out f11))
        have yh2 := (ST4.out.ownCell 3 rfl b (bools_get hbN)).1
        have zf2 := (ST4.out.ownCell 3 rfl b (bools_get hbN)).2
        go_upto_region 37 with fail
        obtain ⟨w12, hw12⟩ : ∃ z, z = w11.setCell ⟨g14, b, none⟩ (.bool (decide (0 < (oTake (o b) ((a : Int) + 1) y.m.mq ds).1.h.v.act.length))) := ⟨_, rfl⟩
        have HBS := Lib.hid (bools_set had N b (decide (0 < (oTake (o b) ((a : Int) + 1) y.m.mq ds).1.h.v.act.length)))
        have ST10 := Lib.hid (show Sta W (fun _ => True) dp (oTake (o b) ((a : Int) + 1) y.m.mq ds).2.2 (ovB N bo (upd o b (oTake (o b) ((a : Int) + 1) y.m.mq ds).1) (upd x b x')) [⟨55, 8, ov, l.length, oms l⟩, ⟨55, 8, .slice (some ⟨g12, 0, none⟩) E.length c12, E.length, oms (E.map Prod.snd)⟩, ⟨3, 1, .slice (some ⟨g13, 0, none⟩) E.length c13, E.length, froms E⟩, ⟨4, 1, .slice (some ⟨g14, 0, none⟩) N N, N, bools (upd had b (decide (0 < (oTake (o b) ((a : Int) + 1) y.m.mq ds).1.h.v.act.length))) N⟩] ((l.map Om.row) ++ orows (oTake (o b) ((a : Int) + 1) y.m.mq ds).1 x' R) w12 from by
          rw [← HBS.out, hw12]
          exact ST4.out.ownPut 3 rfl b (by omega) (.bool (decide (0 < (oTake (o b) ((a : Int) + 1) y.m.mq ds).1.h.v.act.length))))
        rw [← hw12]
        have HSTEP := Lib.hid (HKQ.out.step haN hbN hab hwho HMS.out HDR.out (c := (decide (0 < (oTake (o b) ((a : Int) + 1) y.m.mq ds).1.h.v.act.length))) (fun h => (by first | rfl | exact decide_eq_true (List.length_pos_iff.2 (h.resolve_left (by rw [← HHV.out]; decide))))))
        clear hw12 HBS yh zf yh2 zf2 hpb CV HFD F10 ST4
        refine wp_region_lit ?_
        iterate 6 go_step
        have HLL := Lib.hid (show k + 1 + (E.length - (k + 1) + l.length) ≤ 175 from by
          have h1 := HSTEP.out.len
          rw [List.length_append, ← HL.out, ← ofE_from] at h1
          unfold ofE at h1
          simp only [List.length_map, List.length_drop] at h1
          omega)
        refine wpList_growJ (by rfl) _ _ 41 55 8 112 (.agg outZ) Try.underlying41 Try.infoOutB rfl (by decide) (by decide) (by rfl) ST10.out 1 0 rfl rfl (by rfl) (by rfl) (oms_one l) (by have h2 := HLL.out; omega) ?_
        intro v12 w13 hst
        obtain ⟨ra, rc, rfl, st2⟩ := hst.asRow 0 rfl
        have ST11 := Lib.hid (show Sta W (fun _ => True) dp (oTake (o b) ((a : Int) + 1) y.m.mq ds).2.2 (ovB N bo (upd o b (oTake (o b) ((a : Int) + 1) y.m.mq ds).1) (upd x b x')) [⟨55, 8, v12, E.length + l.length, oms (E.map Prod.snd) ++ oms l⟩, ⟨3, 1, .slice (some ⟨g13, 0, none⟩) E.length c13, E.length, froms E⟩, ⟨4, 1, .slice (some ⟨g14, 0, none⟩) N N, N, bools (upd had b (decide (0 < (oTake (o b) ((a : Int) + 1) y.m.mq ds).1.h.v.act.length))) N⟩] (⟨ra, l.length, rc, oms l⟩ :: (l.map Om.row) ++ orows (oTake (o b) ((a : Int) + 1) y.m.mq ds).1 x' R) w13 from st2)
        clear hst st2 ST10
        have hl1 : l.length ≤ rc := (ST11.out.rowAt 0 rfl).le
        have hl2 : rc ≤ 9223372036854775807 := (ST11.out.rowAt 0 rfl).max
        go_upto_region 39 with fail
        go_loopw [153, 13] (fun iv s13 wr => ∃ t : Nat, iv = .int .i64 t ∧ t ≤ l.length ∧ Sta W (fun _ => True) dp (oTake (o b) ((a : Int) + 1) y.m.mq ds).2.2 (ovB N bo (upd o b (oTake (o b) ((a : Int) + 1) y.m.mq ds).1) (upd x b x')) [⟨55, 8, v12, E.length + l.length, oms (E.map Prod.snd) ++ oms l⟩, ⟨3, 1, s13, E.length + t, froms (E ++ (l.take t).map (fun y => (b, y)))⟩, ⟨4, 1, .slice (some ⟨g14, 0, none⟩) N N, N, bools (upd had b (decide (0 < (oTake (o b) ((a : Int) + 1) y.m.mq ds).1.h.v.act.length))) N⟩] (⟨ra, l.length, rc, oms l⟩ :: (l.map Om.row) ++ orows (oTake (o b) ((a : Int) + 1) y.m.mq ds).1 x' R) wr) (fun iv _ _ => l.length - (intOf iv).toNat)
        case atStart => exact ⟨0, rfl, Nat.zero_le _, by rw [List.take_zero, List.map_nil, List.append_nil, Nat.add_zero]; exact ST11.out⟩
        case round =>
          obtain ⟨t, rfl, ht, st⟩ := hrel
          have ST12 := Lib.hid st
          clear st ST11
          by_cases htl : t < l.length
          · go_upto_region 40 with fail
            refine wp_region_lit ?_
            iterate 9 go_step
            obtain ⟨w14, hw14⟩ : ∃ y, y = wr.alloc (.cells #[.int .i64 ((b : Int) + 1)] 3) := ⟨_, rfl⟩
            obtain ⟨nb, hnb⟩ : ∃ q, q = wr.heap.size := ⟨_, rfl⟩
            rw [← hw14, ← hnb]
            have ST13 := Lib.hid (show Sta W (fun _ => True) dp (oTake (o b) ((a : Int) + 1) y.m.mq ds).2.2 (ovB N bo (upd o b (oTake (o b) ((a : Int) + 1) y.m.mq ds).1) (upd x b x')) [⟨3, 1, .slice (some ⟨nb, 0, none⟩) 1 1, 1, [.int .i64 ((b : Int) + 1)]⟩, ⟨55, 8, v12, E.length + l.length, oms (E.map Prod.snd) ++ oms l⟩, ⟨3, 1, u13, E.length + t, froms (E ++ (l.take t).map (fun y => (b, y)))⟩, ⟨4, 1, .slice (some ⟨g14, 0, none⟩) N N, N, bools (upd had b (decide (0 < (oTake (o b) ((a : Int) + 1) y.m.mq ds).1.h.v.act.length))) N⟩] (⟨ra, l.length, rc, oms l⟩ :: (l.map Om.row) ++ orows (oTake (o b) ((a : Int) + 1) y.m.mq ds).1 x' R) w14 from hw14 ▸ ST12.out.ownNew ((Fr.refl _ _).alloc _) (xs := [.int .i64 ((b : Int) + 1)]) (n := 1) (by rw [heap_alloc_if, if_pos hnb]) (Nat.le_of_eq hnb.symm) rfl (by decide))
            clear hw14 hnb ST12
            refine wpList_growT (by rfl) _ _ 25 3 1 8 (.int .i64 0) Try.underlying25 Try.infoint rfl (by decide) (by decide) (by rfl) ST13.out 2 rfl (by rfl) (by rfl) (own_add (ST13.out.ownAt 0 rfl)) (by rfl) rfl (by have h2 := HLL.out; omega) ?_
            intro v13 w15 hst
            have ST14 := Lib.hid (show Sta W (fun _ => True) dp (oTake (o b) ((a : Int) + 1) y.m.mq ds).2.2 (ovB N bo (upd o b (oTake (o b) ((a : Int) + 1) y.m.mq ds).1) (upd x b x')) [⟨55, 8, v12, E.length + l.length, oms (E.map Prod.snd) ++ oms l⟩, ⟨3, 1, v13, E.length + t + 1, froms (E ++ (l.take (t + 1)).map (fun y => (b, y)))⟩, ⟨4, 1, .slice (some ⟨g14, 0, none⟩) N N, N, bools (upd had b (decide (0 < (oTake (o b) ((a : Int) + 1) y.m.mq ds).1.h.v.act.length))) N⟩] (⟨ra, l.length, rc, oms l⟩ :: (l.map Om.row) ++ orows (oTake (o b) ((a : Int) + 1) y.m.mq ds).1 x' R) w15 from by
              rw [map_take_snoc htl, ← List.append_assoc, froms_snoc]
              exact hst.less (List.Sublist.cons _ (List.Sublist.refl _)) (fun _ h => h))
            obtain ⟨a7, c7, hv7, -, -, -⟩ := SlA.of_own (ST14.out.ownAt 1 rfl)
            subst hv7
            clear hst ST13
            go_wp2_with fail
            go_roundw
            case rel => exact ⟨t + 1, by go_num, htl, ST14.out⟩
            case measure => simp [intOf]; omega
          · obtain rfl : t = l.length := by omega
            have HO := Lib.hid (show OjK W N dp bo (some ⟨pb, po, none⟩) cp (k + 1) v12 u13 (.slice (some ⟨g14, 0, none⟩) N N) wr from by
              refine ⟨upd o b (oTake (o b) ((a : Int) + 1) y.m.mq ds).1, upd x b x', (oTake (o b) ((a : Int) + 1) y.m.mq ds).2.2, ⟨ra, l.length, rc, oms l⟩ :: (l.map Om.row) ++ orows (oTake (o b) ((a : Int) + 1) y.m.mq ds).1 x' R, E ++ l.map (fun y => (b, y)), upd had b (decide (0 < (oTake (o b) ((a : Int) + 1) y.m.mq ds).1.h.v.act.length)), by rw [List.length_append]; omega, ?_, fun i hi r hr => List.mem_cons_of_mem _ (HRW2.out i hi r hr), List.mem_cons_of_mem _ HPT2.out, fun e he => ?_, ?_⟩
              rotate_left
              · rcases List.mem_append.1 he with h | h
                · exact List.mem_cons_of_mem _ (List.mem_append.2 (.inr ((orows_app _ _ _ _).2 (.inr (HER.out e h)))))
                · obtain ⟨y, hy, rfl⟩ := List.mem_map.1 h
                  exact List.mem_cons_of_mem _ (List.mem_append.2 (.inl (List.mem_map.2 ⟨y, hy, rfl⟩)))
              · have h := ST12.out
                rw [List.take_length] at h
                rw [List.length_append, List.length_map, List.map_append, ← oms_app, List.map_map]
                rw [show (Prod.snd ∘ fun y : Om => (b, y)) = id from rfl, List.map_id]
                exact h
              · rw [List.drop_append_of_le_length (by omega), ofE_app, ofE_from, HL.out]
                exact HSTEP.out)
            have hk176 : k < 176 := by omega
            clear ST12
            go_wp2_with fail
            go_roundw
            case rel => exact ⟨k + 1, by go_num, HO.out⟩
            case measure => simp [intOf]; omega
    · obtain rfl : k = E.length := by omega
      have HD0 := HKK.out
      rw [List.drop_length] at HD0
      obtain ⟨a_, c_, rfl, hs_, -, -⟩ := SlA.of_own (ST1.out.ownAt 0 rfl)
      have q3 := hs_.le
      have q4 := hs_.max
      have HC := Lib.hid (show OjC W N dp bo ap cp (.slice (some ⟨g14, 0, none⟩) N N) wr from ⟨o, x, ds, R, had, HD0.ji, HD0.done, HRW.out, HPT.out, ST1.out.less (List.Sublist.cons _ (List.Sublist.cons _ (List.Sublist.refl _))) (fun _ h => h)⟩)
      clear HD0 hs_ HKK HRW HPT HER ST1
      go_wp2_with fail
      exact oj_check HK hN7 HC
set_option maxHeartbeats 16000000 in
set_option maxRecDepth 100000 in
theorem oj_round {W : World} {N : Nat} {dp : Value} {bo : Nat → Nat} {ap : Option Addr} {cp : Nat} {r : Nat} {u0 u1 u2 u3 u8 u9 u10 u23 u24 u25 u26 u27 u28 u29 u30 u31 u32 u33 u34 u35 u36 u37 u38 u39 u40 u41 u42 u43 u44 u45 u46 u47 u48 u49 u50 : Value} {K NN K2 : Act → World → Prop} {P : Ending → World → Prop} {wr : World} {u4 u12 u13 u14 u15 u16 u17 u18 u19 u20 u21 u22 u51 u52 u53 u54 u55 u56 u57 u58 u59 u60 u61 u62 u63 u64 u65 u66 u67 u68 u69 u70 u71 u72 u73 u74 u75 u76 u77 u78 u79 u80 u81 u82 u83 u84 u85 u86 u87 u88 u89 u90 u91 u92 u93 u94 u95 u96 u97 u98 u99 u100 u101 u102 u103 u104 u105 u106 u107 u108 u109 u110 u111 u112 u113 u114 u115 u116 u117 u118 u119 u120 u121 u122 u123 u124 u125 u126 u127 u128 u129 u130 u131 u132 u133 u134 u135 u136 u137 u138 u139 u140 u141 u142 u143 u144 u145 u146 u147 u148 u149 u150 u151 u152 u153 u154 u155 u156 u157 u158 u159 u160 u161 u162 u163 u164 u165 u166 u167 u168 u169 u170 u171 u172 u173 u174 u175 u176 u177 u178 u179 u180 u181 u182 u183 u184 u185 u186 u187 u188 u189 u190 u191 u192 u193 u194 : Value}
    (HK : Hid (OjRK W N dp bo ap cp r u0 u1 u2 u3 u8 u9 u10 u23 u24 u25 u26 u27 u28 u29 u30 u31 u32 u33 u34 u35 u36 u37 u38 u39 u40 u41 u42 u43 u44 u45 u46 u47 u48 u49 u50 K)) (hN7 : N ≤ 7)
    (HS : Hid (OjSt W N dp bo ap cp wr)) :
    Code.wp Try.prog (codeAt [1, 1, 1, 1, 1, 1, 0, 1, 0, 0, 1, 0, 0, 0] (Try.f4.body.getD .skip)) (Exit.then (fun a w => Code.wp Try.prog (codeAt [1, 1, 1, 1, 1, 1, 0, 1, 0, 0, 1, 0, 0, 1] (Try.f4.body.getD .skip)) (Exit.inBlock 3 (Exit.then K (Exit.then NN (Exit.inBlock 2 (Exit.then K2 (bodyPost Try.prog Try.f4 P)))))) a w) (Exit.inBlock 3 (Exit.then K (Exit.then NN (Exit.inBlock 2 (Exit.then K2 (bodyPost Try.prog Try.f4 P))))))) ⟨List.toArray (u0 :: u1 :: u2 :: u3 :: u4 :: .int .i64 (N : Int) :: dp :: .slice ap N cp :: u8 :: u9 :: u10 :: .int .i64 (r : Int) :: u12 :: u13 :: u14 :: u15 :: u16 :: u17 :: u18 :: u19 :: u20 :: u21 :: u22 :: u23 :: u24 :: u25 :: u26 :: u27 :: u28 :: u29 :: u30 :: u31 :: u32 :: u33 :: u34 :: u35 :: u36 :: u37 :: u38 :: u39 :: u40 :: u41 :: u42 :: u43 :: u44 :: u45 :: u46 :: u47 :: u48 :: u49 :: u50 :: u51 :: u52 :: u53 :: u54 :: u55 :: u56 :: u57 :: u58 :: u59 :: u60 :: u61 :: u62 :: u63 :: u64 :: u65 :: u66 :: u67 :: u68 :: u69 :: u70 :: u71 :: u72 :: u73 :: u74 :: u75 :: u76 :: u77 :: u78 :: u79 :: u80 :: u81 :: u82 :: u83 :: u84 :: u85 :: u86 :: u87 :: u88 :: u89 :: u90 :: u91 :: u92 :: u93 :: u94 :: u95 :: u96 :: u97 :: u98 :: u99 :: u100 :: u101 :: u102 :: u103 :: u104 :: u105 :: u106 :: u107 :: u108 :: u109 :: u110 :: u111 :: u112 :: u113 :: u114 :: u115 :: u116 :: u117 :: u118 :: u119 :: u120 :: u121 :: u122 :: u123 :: u124 :: u125 :: u126 :: u127 :: u128 :: u129 :: u130 :: u131 :: u132 :: u133 :: u134 :: u135 :: u136 :: u137 :: u138 :: u139 :: u140 :: u141 :: u142 :: u143 :: u144 :: u145 :: u146 :: u147 :: u148 :: u149 :: u150 :: u151 :: u152 :: u153 :: u154 :: u155 :: u156 :: u157 :: u158 :: u159 :: u160 :: u161 :: u162 :: u163 :: u164 :: u165 :: u166 :: u167 :: u168 :: u169 :: u170 :: u171 :: u172 :: u173 :: u174 :: u175 :: u176 :: u177 :: u178 :: u179 :: u180 :: u181 :: u182 :: u183 :: u184 :: u185 :: u186 :: u187 :: u188 :: u189 :: u190 :: u191 :: u192 :: u193 :: u194 :: []), []⟩ wr := by
  conv => arg 2; whnf
  obtain ⟨o, x, ds, R, hji, hrw, hpt, st⟩ := HS.out
  have HJ := Lib.hid hji
  have HRW := Lib.hid hrw
  have HPT := Lib.hid hpt
  have ST1 := Lib.hid ((st.ownNil 3 1).ownNil 55 8)
  clear hji hrw hpt st HS
  go_wp2_with fail
  conv => arg 2; whnf
  go_upto_region 18 with fail
  refine wp_region_lit ?_
  iterate 3 go_step
  refine wpList_makeB (by rfl) 66 4 _ _ (by rfl) Try.underlying66 Try.infoBoolB (n := N) (by omega) (by rfl) (by rfl) ST1.out (by decide) ?_
  intro g14 w2 hst
  have HT0 := Lib.hid (show OjT W N dp bo ap cp 0 (.slice none 0 0) (.slice none 0 0) (.slice (some ⟨g14, 0, none⟩) N N) w2 from
    ⟨o, x, ds, R, [], _, Tp.zero HJ.out _, HRW.out, HPT.out, fun e he => (by cases he), hst.permL (List.perm_append_comm (l₁ := [_, _]) (l₂ := [_]))⟩)
  clear hst ST1 HJ HRW HPT
  go_wp2_with fail
  go_loopw [15, 12, 13] (fun iv s12 s13 wr => ∃ i : Nat, iv = .int .i64 i ∧ i ≤ N ∧ OjT W N dp bo ap cp i s12 s13 (.slice (some ⟨g14, 0, none⟩) N N) wr) (fun iv _ _ _ => N - (intOf iv).toNat)
  case atStart => exact ⟨0, rfl, Nat.zero_le _, HT0.out⟩
  case round =>
    obtain ⟨i, rfl, hi, hst⟩ := hrel
    have HT := Lib.hid hst
    clear hst HT0
    by_cases hiN : i < N
    · obtain ⟨o, x, ds, R, E, had, htp, hrw, hpt, her, st⟩ := HT.out
      have HTP := Lib.hid htp
      have HRW := Lib.hid hrw
      have HPT := Lib.hid hpt
      have HER := Lib.hid her
      have ST1 := Lib.hid st
      clear htp hrw hpt her st HT
      obtain ⟨pb, po, rfl, hcl⟩ := (ST1.out.row _ HPT.out).cell i _ (ptrL_get hiN)
      have q1 := (ST1.out.row _ HPT.out).le
      have q2 := (ST1.out.row _ HPT.out).max
      simp only at q1 q2
      have CV := Lib.hid (ovView_any (o i) (x i) dp ds W (fun _ => True) _ _ R (bo i) wr (ST1.out.ovIn (X := []) hiN (HRW.out i hiN)))
      have HFD : ∀ w, Sem.run Try.prog (Instr.field 29 (.agg ((o i).h.v.arr (x i).x.x)) 1) w = .ok (.agg #[.slice (x i).x.x.aa (o i).h.v.act.length (x i).x.x.ac, .int .i64 (o i).h.v.am]) w := viewField _ _
      have hiN2 : (i : Int) < (N : Int) := by omega
      go_upto_region 22 with fail
      go_wp2_with fail
      refine CV.out.mono ?_
      rintro e w3 ⟨rfl, f3⟩
      have F3 := Lib.hid f3
      clear f3 CV
      go_wp2_with fail
      refine (setLen_any _ _ _ _ _).mono ?_
      rintro e w4 ⟨rfl, f4⟩
      have ST2 := Lib.hid (ST1.out.gr (Gr.trans F3.out f4))
      clear ST1 f4 F3 HFD
      have hcl2 : w4.cell? ⟨pb, po + i, none⟩ = some (.pointer (some ⟨bo i, 0, none⟩)) := by
        obtain ⟨b_, o_, e_, h_⟩ := (ST2.out.row _ HPT.out).cell i _ (ptrL_get hiN)
        injection e_ with e_
        injection e_ with e1 e2
        subst e1 e2
        exact h_
      have zc := (ST2.out.ownCell 2 rfl i (bools_get hiN)).1
      have zf := (ST2.out.ownCell 2 rfl i (bools_get hiN)).2
      go_upto_region 23 with fail
      clear zc zf hcl
      obtain ⟨w5, hw5⟩ : ∃ y, y = w4.setCell ⟨g14, i, none⟩ (.bool (decide (0 < (o i).h.v.act.length))) := ⟨_, rfl⟩
      have HBS := Lib.hid (bools_set had N i (decide (0 < (o i).h.v.act.length)))
      have ST3 := Lib.hid (show Sta W (fun _ => True) dp ds (ovB N bo o x) [⟨55, 8, u12, E.length, oms (E.map Prod.snd)⟩, ⟨3, 1, u13, E.length, froms E⟩, ⟨4, 1, .slice (some ⟨g14, 0, none⟩) N N, N, bools (upd had i (decide (0 < (o i).h.v.act.length))) N⟩] (R) w5 from by
        rw [← HBS.out, hw5]
        exact ST2.out.ownPut 2 rfl i (by omega) (.bool (decide (0 < (o i).h.v.act.length))))
      have hcl3 : w5.cell? ⟨pb, po + i, none⟩ = some (.pointer (some ⟨bo i, 0, none⟩)) := by
        obtain ⟨b_, o_, e_, h_⟩ := (ST3.out.row _ HPT.out).cell i _ (ptrL_get hiN)
        injection e_ with e_
        injection e_ with e1 e2
        subst e1 e2
        exact h_
      rw [← hw5]
      clear hw5 hcl2 HBS ST2
      have CT := Lib.hid (ovTick_any (o i) (x i) dp ds W (fun _ => True) _ _ R (bo i) w5 (ST3.out.ovIn (X := []) hiN (HRW.out i hiN)) (HTP.out.ji.inv.ok i hiN))
      have HF := Lib.hid (oFew (o i) ds)
      have HSTEP := Lib.hid (HTP.out.step hiN ST3.out.dr.range (c := (decide (0 < (o i).h.v.act.length))) (fun h => decide_eq_true (List.length_pos_iff.2 h)))
      have HEL := Lib.hid (show E.length ≤ 175 from by have h1 := PhiQ_len (ofE E); have h2 := HTP.out.phi; have h3 : (ofE E).length = E.length := by unfold ofE; simp
                                                       omega)
      go_wp2_with fail
      refine CT.out.mono ?_
      rintro e w6 ⟨x', ov, l, hl, rfl, st⟩
      have ST4 := Lib.hid (st.ovOut hiN)
      have HL := Lib.hid hl
      have HLL := Lib.hid (show l.length ≤ 70 from by have h := HF.out; rw [← hl, List.length_map] at h; exact h)
      clear st CT hcl3 hl HF ST3
      go_upto_region 24 with fail
      refine wp_region_lit ?_
      iterate 6 go_step
      refine wpList_growJ (by rfl) _ _ 41 55 8 112 (.agg outZ) Try.underlying41 Try.infoOutB rfl (by decide) (by decide) (by rfl) ST4.out 1 0 rfl rfl (by rfl) (by rfl) (oms_one l) (by have h1 := HEL.out; have h2 := HLL.out; omega) ?_
      intro v12 w7 hst
      obtain ⟨ra, rc, rfl, st2⟩ := hst.asRow 0 rfl
      have ST5 := Lib.hid st2
      clear hst st2 ST4
      have hl1 : l.length ≤ rc := (ST5.out.rowAt 0 rfl).le
      have hl2 : rc ≤ 9223372036854775807 := (ST5.out.rowAt 0 rfl).max
      go_upto_region 26 with fail
      have ST6 := Lib.hid (show Sta W (fun _ => True) dp (oTick (o i) ds).2.2 (ovB N bo (upd o i (oTick (o i) ds).1) (upd x i x')) [⟨55, 8, v12, E.length + l.length, oms (E.map Prod.snd) ++ oms l⟩, ⟨3, 1, u13, E.length, froms E⟩, ⟨4, 1, .slice (some ⟨g14, 0, none⟩) N N, N, bools (upd had i (decide (0 < (o i).h.v.act.length))) N⟩] (⟨ra, l.length, rc, oms l⟩ :: ((l.map Om.row) ++ orows (oTick (o i) ds).1 x' R)) w7 from ST5.out)
      clear ST5
      go_loopw [82, 13] (fun iv s13 wr => ∃ t : Nat, iv = .int .i64 t ∧ t ≤ l.length ∧ Sta W (fun _ => True) dp (oTick (o i) ds).2.2 (ovB N bo (upd o i (oTick (o i) ds).1) (upd x i x')) [⟨55, 8, v12, E.length + l.length, oms (E.map Prod.snd) ++ oms l⟩, ⟨3, 1, s13, E.length + t, froms (E ++ (l.take t).map (fun y => (i, y)))⟩, ⟨4, 1, .slice (some ⟨g14, 0, none⟩) N N, N, bools (upd had i (decide (0 < (o i).h.v.act.length))) N⟩] (⟨ra, l.length, rc, oms l⟩ :: ((l.map Om.row) ++ orows (oTick (o i) ds).1 x' R)) wr) (fun iv _ _ => l.length - (intOf iv).toNat)
      case atStart => exact ⟨0, rfl, Nat.zero_le _, by rw [List.take_zero, List.map_nil, List.append_nil, Nat.add_zero]; exact ST6.out⟩
      case round =>
        obtain ⟨t, rfl, ht, st⟩ := hrel
        have ST7 := Lib.hid st
        clear st ST6
        have i7 : (i : Int) + 1 ≤ 7 := by omega
        by_cases htl : t < l.length
        · go_upto_region 27 with fail
          refine wp_region_lit ?_
          iterate 12 go_step
          obtain ⟨w8, hw8⟩ : ∃ y, y = wr.alloc (.cells #[.int .i64 ((i : Int) + 1)] 3) := ⟨_, rfl⟩
          obtain ⟨nb, hnb⟩ : ∃ q, q = wr.heap.size := ⟨_, rfl⟩
          rw [← hw8, ← hnb]
          have ST8 := Lib.hid (show Sta W (fun _ => True) dp (oTick (o i) ds).2.2 (ovB N bo (upd o i (oTick (o i) ds).1) (upd x i x')) [⟨3, 1, .slice (some ⟨nb, 0, none⟩) 1 1, 1, [.int .i64 ((i : Int) + 1)]⟩, ⟨55, 8, v12, E.length + l.length, oms (E.map Prod.snd) ++ oms l⟩, ⟨3, 1, u13, E.length + t, froms (E ++ (l.take t).map (fun y => (i, y)))⟩, ⟨4, 1, .slice (some ⟨g14, 0, none⟩) N N, N, bools (upd had i (decide (0 < (o i).h.v.act.length))) N⟩] (⟨ra, l.length, rc, oms l⟩ :: ((l.map Om.row) ++ orows (oTick (o i) ds).1 x' R)) w8 from hw8 ▸ ST7.out.ownNew ((Fr.refl _ _).alloc _) (xs := [.int .i64 ((i : Int) + 1)]) (n := 1) (by rw [heap_alloc_if, if_pos hnb]) (Nat.le_of_eq hnb.symm) rfl (by decide))
          clear hw8 hnb ST7
          refine wpList_growT (by rfl) _ _ 25 3 1 8 (.int .i64 0) Try.underlying25 Try.infoint rfl (by decide) (by decide) (by rfl) ST8.out 2 rfl (by rfl) (by rfl) (own_add (ST8.out.ownAt 0 rfl)) (by rfl) rfl (by have h1 := HEL.out; have h2 := HLL.out; omega) ?_
          intro v13 w9 hst
          have ST9 := Lib.hid (show Sta W (fun _ => True) dp (oTick (o i) ds).2.2 (ovB N bo (upd o i (oTick (o i) ds).1) (upd x i x')) [⟨55, 8, v12, E.length + l.length, oms (E.map Prod.snd) ++ oms l⟩, ⟨3, 1, v13, E.length + t + 1, froms (E ++ (l.take (t + 1)).map (fun y => (i, y)))⟩, ⟨4, 1, .slice (some ⟨g14, 0, none⟩) N N, N, bools (upd had i (decide (0 < (o i).h.v.act.length))) N⟩] (⟨ra, l.length, rc, oms l⟩ :: ((l.map Om.row) ++ orows (oTick (o i) ds).1 x' R)) w9 from by
            rw [map_take_snoc htl, ← List.append_assoc, froms_snoc]
            exact hst.less (List.Sublist.cons _ (List.Sublist.refl _)) (fun _ h => h))
          obtain ⟨a7, c7, hv7, -, -, -⟩ := SlA.of_own (ST9.out.ownAt 1 rfl)
          subst hv7
          clear hst ST8
          go_wp2_with fail
          go_roundw
          case rel => exact ⟨t + 1, by go_num, htl, ST9.out⟩
          case measure => simp [intOf]; omega
        · obtain rfl : t = l.length := by omega
          have HO := Lib.hid (show OjT W N dp bo (some ⟨pb, po, none⟩) cp (i + 1) v12 u13 (.slice (some ⟨g14, 0, none⟩) N N) wr from by
            refine ⟨upd o i (oTick (o i) ds).1, upd x i x', (oTick (o i) ds).2.2, ⟨ra, l.length, rc, oms l⟩ :: ((l.map Om.row) ++ orows (oTick (o i) ds).1 x' R), E ++ l.map (fun y => (i, y)), upd had i (decide (0 < (o i).h.v.act.length)), ?_, HRW.out.put (fun r h => List.mem_cons_of_mem _ (List.mem_append.2 (.inr ((orows_app _ _ _ _).2 (.inl h))))) (fun r h => List.mem_cons_of_mem _ (List.mem_append.2 (.inr ((orows_app _ _ _ _).2 (.inr h))))), List.mem_cons_of_mem _ (List.mem_append.2 (.inr ((orows_app _ _ _ _).2 (.inr HPT.out)))), fun e he => ?_, ?_⟩
            rotate_left
            · rcases List.mem_append.1 he with h | h
              · exact List.mem_cons_of_mem _ (List.mem_append.2 (.inr ((orows_app _ _ _ _).2 (.inr (HER.out e h)))))
              · obtain ⟨y, hy, rfl⟩ := List.mem_map.1 h
                exact List.mem_cons_of_mem _ (List.mem_append.2 (.inl (List.mem_map.2 ⟨y, hy, rfl⟩)))
            · have h := ST7.out
              rw [List.take_length] at h
              rw [List.length_append, List.length_map, List.map_append, ← oms_app, List.map_map]
              rw [show (Prod.snd ∘ fun y : Om => (i, y)) = id from rfl, List.map_id]
              exact h
            · rw [ofE_app, ofE_from, HL.out]
              exact HSTEP.out)
          clear ST7 HL HSTEP HER HRW HTP HPT HEL HLL
          go_wp2_with fail
          go_roundw
          case rel => exact ⟨i + 1, by go_num, hiN, HO.out⟩
          case measure => simp [intOf]; omega
    · obtain rfl : i = N := by omega
      have HKP := Lib.hid (show OjK W i dp bo ap cp 0 u12 u13 (.slice (some ⟨g14, 0, none⟩) i i) wr from by
        obtain ⟨o, x, ds, R, E, had, htp, hrw, hpt, her, st⟩ := HT.out
        exact ⟨o, x, ds, R, E, had, Nat.zero_le _, htp.kp, hrw, hpt, her, st⟩)
      clear HT
      go_upto_block 8 with fail
      refine wp_tail ?_ (by assumption)
      exact oj_takes HK hN7 HKP
end Go.Proofs.Ytelepohdfcjnfaa
