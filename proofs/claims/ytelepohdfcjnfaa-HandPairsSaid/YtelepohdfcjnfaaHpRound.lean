/-
  A round of HandPairs behind its choice (printed by gen_hpr.py).
-/
import Derived.Test.YtelepohdfcjnfaaHpDef
import Derived.Test.YtelepohdfcjnfaaCodeAt
import Derived.Test.YtelepohdfcjnfaaRegionW
import Derived.Deep.CutRange
import Derived.Deep.CutBlock
namespace Go.Proofs.Ytelepohdfcjnfaa
open Go.RowKit Go.Proofs

set_option maxHeartbeats 16000000 in
set_option maxRecDepth 100000 in
def HpK (W : World) (q7 q10 : Nat) (dp : Value) (k : Nat) (u0 u1 u2 u3 u4 u5 u8 u22 u23 u24 u25 u26 u27 u28 u29 u30 u31 u32 u33 u34 u35 u36 u37 u38 : Value) (K : Act → World → Prop) : Prop :=
  ∀ (v6 v12 v13 v14 v15 v16 v17 v18 v19 v20 v21 v39 v40 v41 v42 v43 v44 v45 v46 v47 v48 v49 v50 v51 v52 v53 v54 v55 v56 v57 v58 v59 v60 v61 v62 v63 v64 v65 v66 v67 v68 v69 v70 v71 v72 v73 v74 v75 v76 v77 v78 v79 v80 v81 v82 v83 v84 v85 v86 v87 v88 v89 v90 v91 v92 v93 v94 v95 v96 v97 v98 v99 v100 v101 v102 v103 v104 v105 v106 v107 v108 v109 v110 v111 v112 v113 v114 v115 v116 v117 v118 v119 v120 v121 v122 v123 v124 v125 v126 v127 v128 v129 v130 v131 v132 v133 v134 v135 v136 v137 v138 v139 v140 v141 v142 v143 v144 v145 v146 v147 v148 v149 v150 v151 v152 v153 v154 v155 v156 v157 v158 v159 v160 v161 v162 v163 v164 v165 v166 v167 v168 v169 v170 v171 v172 v173 v174 v175 v176 v177 v178 v179 v180 v181 v182 v183 v184 v185 v186 v187 v188 v189 v190 v191 v192 v193 v194 v195 v196 v197 v198 v199 v200 v201 v202 v203 v204 v205 v206 v207 v208 v209 v210 v211 v212 v213 v214 v215 v216 v217 v218 v219 v220 v221 v222 v223 v224 v225 v226 v227 v228 v229 v230 v231 v232 v233 v234 v235 v236 v237 v238 v239 v240 v241 v242 v243 v244 v245 v246 v247 v248 v249 v250 v251 v252 v253 v254 v255 v256 v257 v258 v259 v260 v261 v262 v263 v264 v265 v266 v267 v268 v269 v270 v271 v272 v273 v274 v275 v276 v277 v278 v279 v280 v281 v282 v283 v284 v285 v286 v287 v288 v289 v290 v291 : Value) (w' : World), HpSt W q7 q10 dp (2 * (k + 1)) w' → K ⟨List.toArray (u0 :: u1 :: u2 :: u3 :: u4 :: u5 :: v6 :: .pointer (some ⟨q7, 0, none⟩) :: u8 :: dp :: .pointer (some ⟨q10, 0, none⟩) :: .int .i64 (k : Int) :: v12 :: v13 :: v14 :: v15 :: v16 :: v17 :: v18 :: v19 :: v20 :: v21 :: u22 :: u23 :: u24 :: u25 :: u26 :: u27 :: u28 :: u29 :: u30 :: u31 :: u32 :: u33 :: u34 :: u35 :: u36 :: u37 :: u38 :: v39 :: v40 :: v41 :: v42 :: v43 :: v44 :: v45 :: v46 :: v47 :: v48 :: v49 :: v50 :: v51 :: v52 :: v53 :: v54 :: v55 :: v56 :: v57 :: v58 :: v59 :: v60 :: v61 :: v62 :: v63 :: v64 :: v65 :: v66 :: v67 :: v68 :: v69 :: v70 :: v71 :: v72 :: v73 :: v74 :: v75 :: v76 :: v77 :: v78 :: v79 :: v80 :: v81 :: v82 :: v83 :: v84 :: v85 :: v86 :: v87 :: v88 :: v89 :: v90 :: v91 :: v92 :: v93 :: v94 :: v95 :: v96 :: v97 :: v98 :: v99 :: v100 :: v101 :: v102 :: v103 :: v104 :: v105 :: v106 :: v107 :: v108 :: v109 :: v110 :: v111 :: v112 :: v113 :: v114 :: v115 :: v116 :: v117 :: v118 :: v119 :: v120 :: v121 :: v122 :: v123 :: v124 :: v125 :: v126 :: v127 :: v128 :: v129 :: v130 :: v131 :: v132 :: v133 :: v134 :: v135 :: v136 :: v137 :: v138 :: v139 :: v140 :: v141 :: v142 :: v143 :: v144 :: v145 :: v146 :: v147 :: v148 :: v149 :: v150 :: v151 :: v152 :: v153 :: v154 :: v155 :: v156 :: v157 :: v158 :: v159 :: v160 :: v161 :: v162 :: v163 :: v164 :: v165 :: v166 :: v167 :: v168 :: v169 :: v170 :: v171 :: v172 :: v173 :: v174 :: v175 :: v176 :: v177 :: v178 :: v179 :: v180 :: v181 :: v182 :: v183 :: v184 :: v185 :: v186 :: v187 :: v188 :: v189 :: v190 :: v191 :: v192 :: v193 :: v194 :: v195 :: v196 :: v197 :: v198 :: v199 :: v200 :: v201 :: v202 :: v203 :: v204 :: v205 :: v206 :: v207 :: v208 :: v209 :: v210 :: v211 :: v212 :: v213 :: v214 :: v215 :: v216 :: v217 :: v218 :: v219 :: v220 :: v221 :: v222 :: v223 :: v224 :: v225 :: v226 :: v227 :: v228 :: v229 :: v230 :: v231 :: v232 :: v233 :: v234 :: v235 :: v236 :: v237 :: v238 :: v239 :: v240 :: v241 :: v242 :: v243 :: v244 :: v245 :: v246 :: v247 :: v248 :: v249 :: v250 :: v251 :: v252 :: v253 :: v254 :: v255 :: v256 :: v257 :: v258 :: v259 :: v260 :: v261 :: v262 :: v263 :: v264 :: v265 :: v266 :: v267 :: v268 :: v269 :: v270 :: v271 :: v272 :: v273 :: v274 :: v275 :: v276 :: v277 :: v278 :: v279 :: v280 :: v281 :: v282 :: v283 :: v284 :: v285 :: v286 :: v287 :: v288 :: v289 :: v290 :: v291 :: []), []⟩ w'
theorem hs_cell (h : Nat → Hd) (x : Nat → HdP) {i : Nat} (hi : i < 4) {j : Nat} (hj : j < 7) : (hsArr h x)[i * 7 + j]? = ((h i).arr (x i))[j]? := by
  have e := hs_get h x hi
  have e2 : (((hsArr h x).toList.drop (i * 7)).take 7)[j]? = (((h i).arr (x i)).toList)[j]? := by rw [e]
  rw [List.getElem?_take, if_pos hj, List.getElem?_drop] at e2
  simpa using e2
/-- the ways hold what was said so far -/
def HpPush (Wb : World) (q7 q10 : Nat) (dp : Value) (ds : List Int) (n : Net) (x : Nat → HdP) (ws : Nat → Nat → List Lr) (a : Option Addr) (c : Nat) (outs : List Ho) (w : World) : Prop :=
  ∃ v : Nat → Value, Sta Wb (fun k => k ≠ q7) dp ds [⟨q10, wsArr v, 38⟩] (ownW (fun m => ws (m / 4) (m % 4)) v) (⟨a, outs.length, c, houts outs⟩ :: rowsN n.h x) w
theorem Try.infoLHLetter : (Try.prog.info? 45).map (fun i => (i.zero, i.size, i.bytes)) = some (some (.agg #[.int .i64 0, .bool false]), 2, 16) := by kernel_rfl
theorem pushAll_snoc (p : Nat) (w : Nat → Nat → List Lr) (l : List Ho) (o : Ho) : pushAll p w (l ++ [o]) = pushO p (pushAll p w l) o := by unfold pushAll; rw [List.foldl_append]; rfl
theorem take_snoc {α : Type} (l : List α) {k : Nat} (h : k < l.length) : l.take (k + 1) = l.take k ++ [l[k]] := by rw [List.take_succ_eq_append_getElem h]
theorem lrs_one (l : List Lr) : (lrs l).all (·.oneCell') = true := by
  rw [List.all_eq_true]
  intro u hu
  obtain ⟨y, -, hy⟩ := List.mem_flatMap.1 hu
  simp only [List.mem_cons, List.not_mem_nil, or_false] at hy
  rcases hy with rfl | rfl <;> rfl
theorem lrs_snoc (l : List Lr) (y : Lr) : lrs (l ++ [y]) = lrs l ++ [.int .i64 y.kind, .bool y.high] := by simp [lrs]
set_option maxHeartbeats 16000000 in
set_option maxRecDepth 100000 in
theorem hp_after {W : World} {q7 q10 : Nat} {dp : Value} {k : Nat} {u0 u1 u2 u3 u4 u5 u8 u22 u23 u24 u25 u26 u27 u28 u29 u30 u31 u32 u33 u34 u35 u36 u37 u38 : Value} {K N K2 : Act → World → Prop} {P : Ending → World → Prop} {wr : World} {u6 u12 u13 u14 u15 u16 u17 u19 u20 u21 u39 u40 u41 u42 u43 u44 u45 u46 u47 u48 u49 u50 u51 u52 u53 u54 u55 u56 u57 u58 u59 u60 u61 u62 u63 u64 u65 u66 u67 u68 u69 u70 u71 u72 u73 u74 u75 u76 u77 u78 u79 u80 u81 u82 u83 u84 u85 u86 u87 u88 u89 u90 u91 u92 u93 u94 u95 u96 u97 u98 u99 u100 u101 u102 u103 u104 u105 u106 u107 u108 u109 u110 u111 u112 u113 u114 u115 u116 u117 u118 u119 u120 u121 u122 u123 u124 u125 u126 u127 u128 u129 u130 u131 u132 u133 u134 u135 u136 u137 u138 u139 u140 u141 u142 u143 u144 u145 u146 u147 u148 u149 u150 u151 u152 u153 u154 u155 u156 u157 u158 u159 u160 u161 u162 u163 u164 u165 u166 u167 u168 u169 u170 u171 u172 u173 u174 u175 u176 u177 u178 u179 u180 u181 u182 u183 u184 u185 u186 u187 u188 u189 u190 u191 u192 u193 u194 u195 u196 u197 u198 u199 u200 u201 u202 u203 u204 u205 u206 u207 u208 u209 u210 u211 u212 u213 u214 u215 u216 u217 u218 u219 u220 u221 u222 u223 u224 u225 u226 u227 u228 u229 u230 u231 u232 u233 u234 u235 u236 u237 u238 u239 u240 u241 u242 u243 u244 u245 u246 u247 u248 u249 u250 u251 u252 u253 u254 u255 u256 u257 u258 u259 u260 u261 u262 u263 u264 u265 u266 u267 u268 u269 u270 u271 u272 u273 u274 u275 u276 u277 u278 u279 u280 u281 u282 u283 u284 u285 u286 u287 u288 u289 u290 u291 : Value}
    (HK : Hid (HpK W q7 q10 dp k u0 u1 u2 u3 u4 u5 u8 u22 u23 u24 u25 u26 u27 u28 u29 u30 u31 u32 u33 u34 u35 u36 u37 u38 K)) (HPW : Hid (∀ k, pblk dp k → W.heap.size ≤ k ∧ k ≠ q7)) (hk4 : k < 400)
    (HO : Hid (HpOut W q7 q10 dp (2 * k) u15 u16 wr)) :
    Code.wp Try.prog (codeAt [1, 1, 1, 1, 1, 1, 0, 1, 0, 0, 1, 0, 0, 1, 1, 1, 1, 1, 1, 1, 0, 1] (Try.f3.body.getD .skip)) (Exit.then (fun a w => Code.wp Try.prog (codeAt [1, 1, 1, 1, 1, 1, 0, 1, 0, 0, 1, 0, 0, 1, 1, 1, 1, 1, 1, 1, 1] (Try.f3.body.getD .skip)) (Exit.inBlock 3 (Exit.then K (Exit.then N (Exit.inBlock 2 (Exit.then K2 (bodyPost Try.prog Try.f3 P)))))) a w) (Exit.inBlock 3 (Exit.then K (Exit.then N (Exit.inBlock 2 (Exit.then K2 (bodyPost Try.prog Try.f3 P))))))) ⟨List.toArray (u0 :: u1 :: u2 :: u3 :: u4 :: u5 :: u6 :: .pointer (some ⟨q7, 0, none⟩) :: u8 :: dp :: .pointer (some ⟨q10, 0, none⟩) :: .int .i64 (k : Int) :: u12 :: u13 :: u14 :: u15 :: u16 :: u17 :: .int .i64 0 :: u19 :: u20 :: u21 :: u22 :: u23 :: u24 :: u25 :: u26 :: u27 :: u28 :: u29 :: u30 :: u31 :: u32 :: u33 :: u34 :: u35 :: u36 :: u37 :: u38 :: u39 :: u40 :: u41 :: u42 :: u43 :: u44 :: u45 :: u46 :: u47 :: u48 :: u49 :: u50 :: u51 :: u52 :: u53 :: u54 :: u55 :: u56 :: u57 :: u58 :: u59 :: u60 :: u61 :: u62 :: u63 :: u64 :: u65 :: u66 :: u67 :: u68 :: u69 :: u70 :: u71 :: u72 :: u73 :: u74 :: u75 :: u76 :: u77 :: u78 :: u79 :: u80 :: u81 :: u82 :: u83 :: u84 :: u85 :: u86 :: u87 :: u88 :: u89 :: u90 :: u91 :: u92 :: u93 :: u94 :: u95 :: u96 :: u97 :: u98 :: u99 :: u100 :: u101 :: u102 :: u103 :: u104 :: u105 :: u106 :: u107 :: u108 :: u109 :: u110 :: u111 :: u112 :: u113 :: u114 :: u115 :: u116 :: u117 :: u118 :: u119 :: u120 :: u121 :: u122 :: u123 :: u124 :: u125 :: u126 :: u127 :: u128 :: u129 :: u130 :: u131 :: u132 :: u133 :: u134 :: u135 :: u136 :: u137 :: u138 :: u139 :: u140 :: u141 :: u142 :: u143 :: u144 :: u145 :: u146 :: u147 :: u148 :: u149 :: u150 :: u151 :: u152 :: u153 :: u154 :: u155 :: u156 :: u157 :: u158 :: u159 :: u160 :: u161 :: u162 :: u163 :: u164 :: u165 :: u166 :: u167 :: u168 :: u169 :: u170 :: u171 :: u172 :: u173 :: u174 :: u175 :: u176 :: u177 :: u178 :: u179 :: u180 :: u181 :: u182 :: u183 :: u184 :: u185 :: u186 :: u187 :: u188 :: u189 :: u190 :: u191 :: u192 :: u193 :: u194 :: u195 :: u196 :: u197 :: u198 :: u199 :: u200 :: u201 :: u202 :: u203 :: u204 :: u205 :: u206 :: u207 :: u208 :: u209 :: u210 :: u211 :: u212 :: u213 :: u214 :: u215 :: u216 :: u217 :: u218 :: u219 :: u220 :: u221 :: u222 :: u223 :: u224 :: u225 :: u226 :: u227 :: u228 :: u229 :: u230 :: u231 :: u232 :: u233 :: u234 :: u235 :: u236 :: u237 :: u238 :: u239 :: u240 :: u241 :: u242 :: u243 :: u244 :: u245 :: u246 :: u247 :: u248 :: u249 :: u250 :: u251 :: u252 :: u253 :: u254 :: u255 :: u256 :: u257 :: u258 :: u259 :: u260 :: u261 :: u262 :: u263 :: u264 :: u265 :: u266 :: u267 :: u268 :: u269 :: u270 :: u271 :: u272 :: u273 :: u274 :: u275 :: u276 :: u277 :: u278 :: u279 :: u280 :: u281 :: u282 :: u283 :: u284 :: u285 :: u286 :: u287 :: u288 :: u289 :: u290 :: u291 :: []), []⟩ wr := by
  conv => arg 2; whnf
  obtain ⟨Wb, n, x, v0, ds, outs, a, c, p, rfl, rfl, hp4, hn, hln, hol, hob, fb, h7, b7, st⟩ := HO.out
  have HN := Lib.hid hn
  have HLN := Lib.hid hln
  have HOB := Lib.hid hob
  have FB := Lib.hid fb
  have H7 := Lib.hid h7
  have HP0 := Lib.hid (show HpPush Wb q7 q10 dp ds n x n.w a c outs wr from ⟨v0, st⟩)
  have HPQ := Lib.hid (show ¬ pblk dp q7 from fun h => (HPW.out _ h).2 rfl)
  have BW := Lib.hid ((st.olds h7 HPQ.out).1 b7)
  have m1 := (st.rowAt 0 rfl).le
  have m2 := (st.rowAt 0 rfl).max
  clear hn hln hol hob fb h7 b7 st HO
  go_wp2_with fail
  generalize wr = wr0 at HP0 ⊢
  go_loopw [18] (fun iv wr => ∃ k : Nat, iv = .int .i64 k ∧ k ≤ outs.length ∧ HpPush Wb q7 q10 dp ds n x (pushAll p n.w (outs.take k)) a c outs wr) (fun iv _ => outs.length - (intOf iv).toNat)
  case atStart => exact ⟨0, rfl, Nat.zero_le _, HP0.out⟩
  case round =>
    obtain ⟨j, rfl, hj, hpu⟩ := hrel
    have HPU := Lib.hid hpu
    clear hpu HP0
    by_cases hjl : j < outs.length
    · obtain ⟨v, st⟩ := HPU.out
      have ST1 := Lib.hid st
      clear st HPU
      obtain ⟨bo, oo, rfl, ho8⟩ := SlA.elem (f := Ho.cells) (n := 8) (fun _ => rfl) (by decide) (ST1.out.rowAt 0 rfl) j hjl
      have HE := Lib.hid (show pushAll p n.w (outs.take (j + 1)) = pushO p (pushAll p n.w (outs.take j)) outs[j] by rw [take_snoc _ hjl, pushAll_snoc])
      have hb := HOB.out _ (List.getElem_mem hjl)
      have y0 : wr.cell? ⟨bo, oo + j * 8, none⟩ = some (.int .i64 outs[j].who) := ho8 0 _ rfl
      have HC1 := Lib.hid (show (houts outs)[j * 8 + 1]? = some (.int .i64 outs[j].kind) from flatMap_get Ho.cells 8 (fun _ => rfl) outs j 1 hjl (by decide))
      have HC2 := Lib.hid (show (houts outs)[j * 8 + 4]? = some (.bool outs[j].high) from flatMap_get Ho.cells 8 (fun _ => rfl) outs j 4 hjl (by decide))
      obtain ⟨to_, hto⟩ : ∃ t : Nat, outs[j].who - 1 = (t : Int) := ⟨(outs[j].who - 1).toNat, by omega⟩
      have t4 : to_ < 4 := by omega
      have tp : to_ ≠ p := by omega
      have HTO := Lib.hid (show (outs[j].who - 1).toNat = to_ by omega)
      obtain ⟨z, hz⟩ : ∃ z, z = outs[j] := ⟨_, rfl⟩
      rw [← hz] at HE hto y0 HC1 HC2 HTO hb
      clear hz ho8
      obtain ⟨wo, kd, hi⟩ := z
      simp only at hto hb HTO HC1 HC2
      go_upto_region 45 with fail
      clear y0
      have c1 : decide ((to_ : Int) < 0) = false := decide_eq_false (by omega)
      have c2 : decide ((4 : Int) ≤ (to_ : Int)) = false := decide_eq_false (by omega)
      have c3 : ((to_ : Int) == (p : Int)) = false := by simp; omega
      go_upto_region 47 with fail
      clear c1 c2 c3 hto
      have HM := Lib.hid (show p * 4 + to_ < 16 by omega)
      have HLW := Lib.hid (show (pushAll p n.w (outs.take j) p to_).length ≤ 2 * k + 2 by have h1 := pushAll_len p (outs.take j) n.w p to_; have h2 := HLN.out p to_; have h5 : (outs.take j).length ≤ outs.length := List.length_take_le' j outs; omega)
      obtain ⟨w2, hwd⟩ : ∃ x, x = wr.drew := ⟨_, rfl⟩
      have HWD := Lib.hid hwd
      have ST2 := Lib.hid (show Sta Wb (fun k => k ≠ q7) dp ds [⟨q10, wsArr v, 38⟩] (ownW (fun m => (pushAll p n.w (outs.take j)) (m / 4) (m % 4)) v) (⟨some ⟨bo, oo, none⟩, outs.length, c, houts outs⟩ :: rowsN n.h x) w2 from hwd ▸ ST1.out.gr ((Fr.refl _ _).drew))
      clear ST1 hwd
      haveI : Nonempty (WC (fun w => w.cell? ⟨q10, p * 4 + to_, none⟩ = some (v (p * 4 + to_)) ∧ w.cell? ⟨bo, oo + j * 8 + 1, none⟩ = some (.int .i64 kd) ∧ w.cell? ⟨bo, oo + j * 8 + 4, none⟩ = some (.bool hi))) := ⟨⟨w2, ⟨(ST2.out.cell 0 (p * 4 + to_) rfl (ws_get v HM.out)), (by have h := ST2.out.rowCell 0 (j * 8 + 1) rfl HC1.out; rw [← Nat.add_assoc] at h; exact h), (by have h := ST2.out.rowCell 0 (j * 8 + 4) rfl HC2.out; rw [← Nat.add_assoc] at h; exact h)⟩⟩⟩
      have z0 : ∀ z : WC (fun w => w.cell? ⟨q10, p * 4 + to_, none⟩ = some (v (p * 4 + to_)) ∧ w.cell? ⟨bo, oo + j * 8 + 1, none⟩ = some (.int .i64 kd) ∧ w.cell? ⟨bo, oo + j * 8 + 4, none⟩ = some (.bool hi)), z.val.cell? ⟨q10, p * 4 + to_, none⟩ = some (v (p * 4 + to_)) := fun z => z.ok.1
      have z1 : ∀ z : WC (fun w => w.cell? ⟨q10, p * 4 + to_, none⟩ = some (v (p * 4 + to_)) ∧ w.cell? ⟨bo, oo + j * 8 + 1, none⟩ = some (.int .i64 kd) ∧ w.cell? ⟨bo, oo + j * 8 + 4, none⟩ = some (.bool hi)), z.val.cell? ⟨bo, oo + j * 8 + 1, none⟩ = some (.int .i64 kd) := fun z => z.ok.2.1
      have z2 : ∀ z : WC (fun w => w.cell? ⟨q10, p * 4 + to_, none⟩ = some (v (p * 4 + to_)) ∧ w.cell? ⟨bo, oo + j * 8 + 1, none⟩ = some (.int .i64 kd) ∧ w.cell? ⟨bo, oo + j * 8 + 4, none⟩ = some (.bool hi)), z.val.cell? ⟨bo, oo + j * 8 + 4, none⟩ = some (.bool hi) := fun z => z.ok.2.2
      refine wp_region_lastO 24 [20, 21] [] [0, 1, 2, 3, 4, 5, 6, 7, 8, 9, 10, 11, 12, 13, 14, 15, 16, 17, 18, 19, 20, 21, 22, 23] (fun w' => ∃ z : WC (fun w => w.cell? ⟨q10, p * 4 + to_, none⟩ = some (v (p * 4 + to_)) ∧ w.cell? ⟨bo, oo + j * 8 + 1, none⟩ = some (.int .i64 kd) ∧ w.cell? ⟨bo, oo + j * 8 + 4, none⟩ = some (.bool hi)), w' = z.val) (by kernel_rfl) (by kernel_rfl) (fun c a w d v h => by cases d <;> exact h) (fun c a w d v h => by cases d <;> exact h) (by rw [← HWD.out]; exact ⟨⟨w2, ⟨(ST2.out.cell 0 (p * 4 + to_) rfl (ws_get v HM.out)), (by have h := ST2.out.rowCell 0 (j * 8 + 1) rfl HC1.out; rw [← Nat.add_assoc] at h; exact h), (by have h := ST2.out.rowCell 0 (j * 8 + 4) rfl HC2.out; rw [← Nat.add_assoc] at h; exact h)⟩⟩, rfl⟩) ?_
      rw [← HWD.out]
      clear HWD
      simp only [List.take]
      refine wpT_q (by simp only [List.getElem?_toArray, List.getElem?_cons_zero] <;> rfl) (by rfl) (by rfl) ?_
      go_big_quiet_step (fail)
      refine wpQuiet_nil ?_
      refine wpT_q (by simp only [List.getElem?_toArray, List.getElem?_cons_succ, List.getElem?_cons_zero] <;> rfl) (by rfl) (by rfl) ?_
      go_big_quiet_step (fail)
      refine wpQuiet_nil ?_
      refine wpT_q (by simp only [List.getElem?_toArray, List.getElem?_cons_succ, List.getElem?_cons_zero] <;> rfl) (by rfl) (by rfl) ?_
      go_big_quiet_step (fail)
      refine wpQuiet_nil ?_
      refine wpT_q (by simp only [List.getElem?_toArray, List.getElem?_cons_succ, List.getElem?_cons_zero] <;> rfl) (by rfl) (by rfl) ?_
      go_big_quiet_step (fail)
      refine wpQuiet_nil ?_
      refine wpT_q (by simp only [List.getElem?_toArray, List.getElem?_cons_succ, List.getElem?_cons_zero] <;> rfl) (by rfl) (by rfl) ?_
      go_big_quiet_step (fail)
      refine wpQuiet_nil ?_
      refine wpT_q (by simp only [List.getElem?_toArray, List.getElem?_cons_succ, List.getElem?_cons_zero] <;> rfl) (by rfl) (by rfl) ?_
      go_big_quiet_step (fail)
      refine wpQuiet_nil ?_
      refine wpT_q (by simp only [List.getElem?_toArray, List.getElem?_cons_succ, List.getElem?_cons_zero] <;> rfl) (by rfl) (by rfl) ?_
      go_big_quiet_step (fail)
      refine wpQuiet_nil ?_
      refine wpT_q (by simp only [List.getElem?_toArray, List.getElem?_cons_succ, List.getElem?_cons_zero] <;> rfl) (by rfl) (by rfl) ?_
      go_big_quiet_step (fail)
      refine wpQuiet_nil ?_
      refine wpT_q (by simp only [List.getElem?_toArray, List.getElem?_cons_succ, List.getElem?_cons_zero] <;> rfl) (by rfl) (by rfl) ?_
      go_big_quiet_step (fail)
      refine wpQuiet_nil ?_
      refine wpT_q (by simp only [List.getElem?_toArray, List.getElem?_cons_succ, List.getElem?_cons_zero] <;> rfl) (by rfl) (by rfl) ?_
      go_big_quiet_step (fail)
      refine wpQuiet_nil ?_
      refine wpT_q (by simp only [List.getElem?_toArray, List.getElem?_cons_succ, List.getElem?_cons_zero] <;> rfl) (by rfl) (by rfl) ?_
      go_big_quiet_step (fail)
      refine wpQuiet_nil ?_
      refine wpT_q (by simp only [List.getElem?_toArray, List.getElem?_cons_succ, List.getElem?_cons_zero] <;> rfl) (by rfl) (by rfl) ?_
      go_big_quiet_step (fail)
      refine wpQuiet_nil ?_
      refine wpT_q (by simp only [List.getElem?_toArray, List.getElem?_cons_succ, List.getElem?_cons_zero] <;> rfl) (by rfl) (by rfl) ?_
      go_big_quiet_step (fail)
      refine wpQuiet_nil ?_
      refine wpT_q (by simp only [List.getElem?_toArray, List.getElem?_cons_succ, List.getElem?_cons_zero] <;> rfl) (by rfl) (by rfl) ?_
      go_big_quiet_step (fail)
      refine wpQuiet_nil ?_
      refine wpT_q (by simp only [List.getElem?_toArray, List.getElem?_cons_succ, List.getElem?_cons_zero] <;> rfl) (by rfl) (by rfl) ?_
      go_big_quiet_step (fail)
      refine wpQuiet_nil ?_
      refine wpT_q (by simp only [List.getElem?_toArray, List.getElem?_cons_succ, List.getElem?_cons_zero] <;> rfl) (by rfl) (by rfl) ?_
      go_big_quiet_step (fail)
      refine wpQuiet_nil ?_
      refine wpT_q (by simp only [List.getElem?_toArray, List.getElem?_cons_succ, List.getElem?_cons_zero] <;> rfl) (by rfl) (by rfl) ?_
      go_big_quiet_step (fail)
      refine wpQuiet_nil ?_
      refine wpT_q (by simp only [List.getElem?_toArray, List.getElem?_cons_succ, List.getElem?_cons_zero] <;> rfl) (by rfl) (by rfl) ?_
      go_big_quiet_step (fail)
      refine wpQuiet_nil ?_
      refine wpT_q (by simp only [List.getElem?_toArray, List.getElem?_cons_succ, List.getElem?_cons_zero] <;> rfl) (by rfl) (by rfl) ?_
      go_big_quiet_step (fail)
      refine wpQuiet_nil ?_
      refine wpT_q (by simp only [List.getElem?_toArray, List.getElem?_cons_succ, List.getElem?_cons_zero] <;> rfl) (by rfl) (by rfl) ?_
      go_big_quiet_step (fail)
      refine wpQuiet_nil ?_
      refine wpT_e (by simp only [List.getElem?_toArray, List.getElem?_cons_succ, List.getElem?_cons_zero] <;> rfl) (by rfl) ?_
      go_wp2_with fail
      obtain ⟨w3, hw_⟩ : ∃ x, x = w2.alloc (.cells #[.int .i64 kd, .bool hi] 45) := ⟨_, rfl⟩
      obtain ⟨nb, hob_⟩ : ∃ b, b = w2.heap.size := ⟨_, rfl⟩
      rw [← hw_, ← hob_]
      have ST3 := Lib.hid (show Sta Wb (fun k => k ≠ q7) dp ds [⟨q10, wsArr v, 38⟩] (⟨45, 2, .slice (some ⟨nb, 0, none⟩) 1 1, 1, [.int .i64 kd, .bool hi]⟩ :: (ownW (fun m => (pushAll p n.w (outs.take j)) (m / 4) (m % 4)) v)) (⟨some ⟨bo, oo, none⟩, outs.length, c, houts outs⟩ :: rowsN n.h x) w3 from hw_ ▸ ST2.out.ownNew ((Fr.refl _ _).alloc _) (xs := [.int .i64 kd, .bool hi]) (n := 1) (by rw [heap_alloc_if, if_pos hob_]) (Nat.le_of_eq hob_.symm) rfl (by decide))
      clear ST2 hw_ hob_
      refine ⟨⟨⟨w3, ⟨(ST3.out.cell 0 (p * 4 + to_) rfl (ws_get v HM.out)), (by have h := ST3.out.rowCell 0 (j * 8 + 1) rfl HC1.out; rw [← Nat.add_assoc] at h; exact h), (by have h := ST3.out.rowCell 0 (j * 8 + 4) rfl HC2.out; rw [← Nat.add_assoc] at h; exact h)⟩⟩, rfl⟩, ?_⟩
      refine wpT_e (by simp only [List.getElem?_toArray, List.getElem?_cons_succ, List.getElem?_cons_zero] <;> rfl) (by rfl) ?_
      refine wpList_growT (by rfl) _ _ 36 45 2 16 (.agg #[.int .i64 0, .bool false]) Try.underlying36 Try.infoLHLetter rfl (by decide) (by decide) (by rfl) ST3.out (p * 4 + to_ + 1) (by rw [List.getElem?_cons_succ]; exact ownW_at (pushAll p n.w (outs.take j)) v hp4 t4) (by rfl) (by rfl) (own_add (ST3.out.ownAt 0 rfl)) (by rfl) rfl (by have := HLW.out; omega) ?_
      intro v7 w4 hst
      refine wpList_nil ?_
      have ST4 := Lib.hid (show Sta Wb (fun k => k ≠ q7) dp ds [⟨q10, wsArr v, 38⟩] ((ownW (fun m => (pushAll p n.w (outs.take j)) (m / 4) (m % 4)) v).set (p * 4 + to_) ⟨45, 2, v7, (pushAll p n.w (outs.take j) p to_).length + 1, lrs (pushAll p n.w (outs.take j) p to_) ++ [.int .i64 kd, .bool hi]⟩) (⟨some ⟨bo, oo, none⟩, outs.length, c, houts outs⟩ :: rowsN n.h x) w4 from hst.less (List.Sublist.cons _ (List.Sublist.refl _)) (fun _ h => h))
      clear hst ST3
      refine ⟨⟨⟨w4, ⟨(ST4.out.cell 0 (p * 4 + to_) rfl (ws_get v HM.out)), (by have h := ST4.out.rowCell 0 (j * 8 + 1) rfl HC1.out; rw [← Nat.add_assoc] at h; exact h), (by have h := ST4.out.rowCell 0 (j * 8 + 4) rfl HC2.out; rw [← Nat.add_assoc] at h; exact h)⟩⟩, rfl⟩, ?_⟩
      simp only [Act.put, List.setIfInBounds_toArray, List.set_cons_succ, List.set_cons_zero]
      refine wpT_q (by simp only [List.getElem?_toArray, List.getElem?_cons_succ, List.getElem?_cons_zero] <;> rfl) (by rfl) (by rfl) ?_
      go_big_quiet_step (fail)
      refine wpQuiet_nil ?_
      refine wpT_q (by simp only [List.getElem?_toArray, List.getElem?_cons_succ, List.getElem?_cons_zero] <;> rfl) (by rfl) (by rfl) ?_
      go_big_quiet_step (fail)
      refine wpQuiet_nil ?_
      clear this z0 z1 z2
      refine wpT_nil ?_
      simp only [lastQ, List.drop]
      obtain ⟨a7, c7, hv7, -, -, -⟩ := SlA.of_own (ST4.out.ownAt (p * 4 + to_) (by rw [List.getElem?_set_self (by unfold ownW; rw [List.length_map, List.length_range]; exact HM.out)]))
      subst hv7
      have HL2 := Lib.hid (show ownW (fun m => pushAll p n.w (outs.take (j + 1)) (m / 4) (m % 4)) (upd v (p * 4 + to_) (.slice a7 ((pushAll p n.w (outs.take j) p to_).length + 1) c7)) = ((ownW (fun m => (pushAll p n.w (outs.take j)) (m / 4) (m % 4)) v).set (p * 4 + to_) ⟨45, 2, .slice a7 ((pushAll p n.w (outs.take j) p to_).length + 1) c7, (pushAll p n.w (outs.take j) p to_).length + 1, lrs (pushAll p n.w (outs.take j) p to_) ++ [.int .i64 kd, .bool hi]⟩) by
        rw [HE.out]
        unfold pushO
        simp only [HTO.out]
        rw [flat_upd _ t4, ← ownW_set, lrs_snoc, List.length_append]
        rfl)
      have zc : w4.cell? ⟨q10, p * 4 + to_, none⟩ = some (v (p * 4 + to_)) := ST4.out.cell 0 _ rfl (ws_get v HM.out)
      have zf : w4.frozen? ⟨q10, p * 4 + to_, none⟩ = false := ST4.out.froz 0 _ rfl
      go_wp2_with fail
      clear zc zf
      obtain ⟨w5, hw_⟩ : ∃ x, x = w4.setCell ⟨q10, p * 4 + to_, none⟩ (.slice a7 ((pushAll p n.w (outs.take j) p to_).length + 1) c7) := ⟨_, rfl⟩
      rw [← hw_]
      have ST5 := Lib.hid (show Sta Wb (fun k => k ≠ q7) dp ds [⟨q10, wsArr (upd v (p * 4 + to_) (.slice a7 ((pushAll p n.w (outs.take j) p to_).length + 1) c7)), 38⟩] (ownW (fun m => pushAll p n.w (outs.take (j + 1)) (m / 4) (m % 4)) (upd v (p * 4 + to_) (.slice a7 ((pushAll p n.w (outs.take j) p to_).length + 1) c7))) (⟨some ⟨bo, oo, none⟩, outs.length, c, houts outs⟩ :: rowsN n.h x) w5 by
        rw [HL2.out, ← ws_put v HM.out]
        exact hw_ ▸ ST4.out.setC 0 rfl (p * 4 + to_) (.slice a7 ((pushAll p n.w (outs.take j) p to_).length + 1) c7) (by rw [ws_size]; have := HM.out; omega))
      clear hw_ ST4 HL2
      go_roundw
      case rel => exact ⟨j + 1, by go_num, hjl, _, ST5.out⟩
      case measure => simp [intOf]; omega
    · obtain rfl : j = outs.length := by omega
      rw [List.take_length] at HPU
      obtain ⟨v, st⟩ := HPU.out
      obtain ⟨wf, hwf⟩ : ∃ x, x = wr := ⟨_, rfl⟩
      rw [← hwf] at st
      have ST1 := Lib.hid st
      have ws_ : ∀ i j, (pushAll p n.w outs i j).length ≤ 2 * (k + 1) := fun i j => by have h1 := pushAll_len p outs n.w i j; have h2 := HLN.out i j; omega
      have HLN2 := Lib.hid ws_
      have GF := Lib.hid (show Gr wf wr from hwf ▸ Fr.refl _ _)
      have BF := Lib.hid ((st.olds H7.out HPQ.out).2 BW.out)
      obtain ⟨ws, hws⟩ : ∃ ws, ws = pushAll p n.w outs := ⟨_, rfl⟩
      rw [← hws] at HN ST1 HLN2
      clear st HPU hwf HOB HLN BW ws_ hws hjl hj m1 m2
      go_wp2_with fail
      conv => arg 2; whnf
      go_upto_region 48 with fail
      go_wp2_with fail
      generalize wr = wr1 at GF ⊢
      go_loopw [20] (fun iv wr => ∃ i : Nat, iv = .int .i64 i ∧ i ≤ 4 ∧ Gr wf wr) (fun iv _ => 4 - (intOf iv).toNat)
      case atStart => exact ⟨0, rfl, by decide, GF.out⟩
      case round =>
        obtain ⟨i, rfl, hi, gi⟩ := hrel
        have GI := Lib.hid gi
        clear gi GF
        by_cases hi4 : i < 4
        · have d1 : decide ((i : Int) < 4) = true := decide_eq_true (by omega)
          go_upto_region 51 with fail
          go_wp2_with fail
          generalize wr = wr2 at GI ⊢
          go_loopw [21] (fun iv wr => ∃ t : Nat, iv = .int .i64 t ∧ t ≤ 4 ∧ Gr wf wr) (fun iv _ => 4 - (intOf iv).toNat)
          case atStart => exact ⟨0, rfl, by decide, GI.out⟩
          case round =>
            obtain ⟨t, rfl, ht, gt⟩ := hrel
            have GT := Lib.hid gt
            clear gt GI
            by_cases ht4 : t < 4
            · have ST2 := Lib.hid (ST1.out.gr GT.out)
              have B2 := Lib.hid (blk_keep GT.out BF.out (fun h => h))
              have CA := Lib.hid (fun w (f : Gr wr w) => setHas_any (x i).x.aa (x i).x.ac (n.h i).v.act (n.h i).v.am ((t : Int) + 1) w ((ST2.out.gr f).row _ (List.mem_cons_of_mem _ (rowsN_in n.h x hi4 _ (at_ 0 rfl)))) (HN.out.hi i hi4).good.v.act)
              have CB := Lib.hid (fun w (f : Gr wr w) => setHas_any (x t).x.aa (x t).x.ac (n.h t).v.act (n.h t).v.am ((i : Int) + 1) w ((ST2.out.gr f).row _ (List.mem_cons_of_mem _ (rowsN_in n.h x ht4 _ (at_ 0 rfl)))) (HN.out.hi t ht4).good.v.act)
              have HR := Lib.hid (fun h1 h2 h3 => HN.out.rest (i := i) (j := t) hi4 ht4 h1 h2 ((has_iff _ _).1 h3))
              obtain ⟨c1, hc1⟩ : ∃ c, c = has (n.h i).v.act ((t : Int) + 1) := ⟨_, rfl⟩
              obtain ⟨c2, hc2⟩ : ∃ c, c = has (n.h t).v.act ((i : Int) + 1) := ⟨_, rfl⟩
              rw [← hc1] at CA HR
              rw [← hc2] at CB
              have HC2 := Lib.hid hc2
              clear hc1 hc2
              obtain ⟨w1a, w1c, hv1, hs1, -, -⟩ := SlA.of_own (ST2.out.ownAt _ (ownW_at ws v hi4 ht4))
              obtain ⟨w2a, w2c, hv2, hs2, -, -⟩ := SlA.of_own (ST2.out.ownAt _ (ownW_at ws v ht4 hi4))
              have k1 := hs1.le
              have k2 := hs1.max
              have k3 := hs2.le
              have k4 := hs2.max
              have HV1 := Lib.hid hv1
              have HV2 := Lib.hid hv2
              clear hs1 hs2 hv1 hv2
              go_upto_region 54 with fail
              cases c1
              case false =>
                haveI : Nonempty (WC (Gr wr)) := ⟨⟨wr, Fr.refl _ _⟩⟩
                have z1 : ∀ z2 : WC (Gr wr), z2.val.cell? ⟨q7, i * 7 + 1, none⟩ = some (.slice (x i).x.aa (n.h i).v.act.length (x i).x.ac) := fun z2 => z2.ok.cell ((by rw [Lib.cell_of_heap B2.out]; exact (hs_cell n.h x hi4 (j := 1) (by decide)).trans rfl)) (fun h => h)
                have z2 : ∀ z2 : WC (Gr wr), z2.val.cell? ⟨q7, i * 7 + 2, none⟩ = some (.int .i64 (n.h i).v.am) := fun z2 => z2.ok.cell ((by rw [Lib.cell_of_heap B2.out]; exact (hs_cell n.h x hi4 (j := 2) (by decide)).trans rfl)) (fun h => h)
                have z3 : ∀ z2 : WC (Gr wr), z2.val.cell? ⟨q7, t * 7 + 1, none⟩ = some (.slice (x t).x.aa (n.h t).v.act.length (x t).x.ac) := fun z2 => z2.ok.cell ((by rw [Lib.cell_of_heap B2.out]; exact (hs_cell n.h x ht4 (j := 1) (by decide)).trans rfl)) (fun h => h)
                have z4 : ∀ z2 : WC (Gr wr), z2.val.cell? ⟨q7, t * 7 + 2, none⟩ = some (.int .i64 (n.h t).v.am) := fun z2 => z2.ok.cell ((by rw [Lib.cell_of_heap B2.out]; exact (hs_cell n.h x ht4 (j := 2) (by decide)).trans rfl)) (fun h => h)
                have z5 : ∀ z2 : WC (Gr wr), z2.val.cell? ⟨q10, i * 4 + t, none⟩ = some (.slice w1a (ws i t).length w1c) := fun z2 => z2.ok.cell ((by rw [ST2.out.cell 0 (i * 4 + t) rfl (ws_get v (by omega))]; exact congrArg some HV1.out)) (fun h => h)
                have z6 : ∀ z2 : WC (Gr wr), z2.val.cell? ⟨q10, t * 4 + i, none⟩ = some (.slice w2a (ws t i).length w2c) := fun z2 => z2.ok.cell ((by rw [ST2.out.cell 0 (t * 4 + i) rfl (ws_get v (by omega))]; exact congrArg some HV2.out)) (fun h => h)
                refine wp_region_plan [7, 16] (Plan.seq [0, 1, 2, 3, 4, 5, 6, 7, 8, 9, 10, 11, 12, 13, 14, 15, 16, 17, 18, 19, 20, 21, 22, 23, 24, 25, 26, 27, 28, 29, 30, 31, 32, 33, 34] .done) (fun w' => ∃ z' : WC (Gr wr), w' = z'.val) (by kernel_rfl) (by kernel_rfl) (fun c a w d v h => by cases d <;> exact h) (fun c a w d v h => by cases d <;> exact h) ⟨⟨wr.drew, (Fr.refl _ _).drew⟩, rfl⟩ ?_
                simp only [Plan.seq, List.foldr]
                refine wpV_q (by simp only [List.getElem?_toArray, List.getElem?_cons_zero] <;> rfl) (by rfl) (by rfl) ?_
                go_big_quiet_step (fail)
                refine wpQuiet_nil ?_
                repeat (refine wpV_q (by simp only [List.getElem?_toArray, List.getElem?_cons_succ, List.getElem?_cons_zero] <;> rfl) (by rfl) (by rfl) ?_; go_big_quiet_step (fail); refine wpQuiet_nil ?_)
                refine wpV_e (by simp only [List.getElem?_toArray, List.getElem?_cons_succ, List.getElem?_cons_zero] <;> rfl) (by rfl) ?_
                go_wp2_with fail
                refine (CA.out _ (show Gr wr wr.drew from (Fr.refl _ _).drew)).mono ?_
                rintro e w2 ⟨rfl, f2⟩
                have Fw2 : Gr wr w2 := Gr.trans (show Gr wr wr.drew from (Fr.refl _ _).drew) f2
                go_wp2_with fail
                refine ⟨⟨⟨w2, Fw2⟩, rfl⟩, ?_⟩
                repeat (refine wpV_q (by simp only [List.getElem?_toArray, List.getElem?_cons_succ, List.getElem?_cons_zero] <;> rfl) (by rfl) (by rfl) ?_; go_big_quiet_step (fail); refine wpQuiet_nil ?_)
                refine wpV_e (by simp only [List.getElem?_toArray, List.getElem?_cons_succ, List.getElem?_cons_zero] <;> rfl) (by rfl) ?_
                go_wp2_with fail
                refine ⟨⟨⟨w2, Fw2⟩, rfl⟩, ?_⟩
                repeat (refine wpV_q (by simp only [List.getElem?_toArray, List.getElem?_cons_succ, List.getElem?_cons_zero] <;> rfl) (by rfl) (by rfl) ?_; go_big_quiet_step (fail); refine wpQuiet_nil ?_)
                clear f2
                refine wpV_done ?_
                have FZ := Lib.hid Fw2
                clear this z1 z2 z3 z4 z5 z6
                go_wp2_with fail
                go_roundw
                case rel => exact ⟨t + 1, by go_num, ht4, Gr.trans GT.out FZ.out⟩
                case measure => simp [intOf]; omega
              case true =>
                cases c2
                case true =>
                  haveI : Nonempty (WC (Gr wr)) := ⟨⟨wr, Fr.refl _ _⟩⟩
                  have z1 : ∀ z2 : WC (Gr wr), z2.val.cell? ⟨q7, i * 7 + 1, none⟩ = some (.slice (x i).x.aa (n.h i).v.act.length (x i).x.ac) := fun z2 => z2.ok.cell ((by rw [Lib.cell_of_heap B2.out]; exact (hs_cell n.h x hi4 (j := 1) (by decide)).trans rfl)) (fun h => h)
                  have z2 : ∀ z2 : WC (Gr wr), z2.val.cell? ⟨q7, i * 7 + 2, none⟩ = some (.int .i64 (n.h i).v.am) := fun z2 => z2.ok.cell ((by rw [Lib.cell_of_heap B2.out]; exact (hs_cell n.h x hi4 (j := 2) (by decide)).trans rfl)) (fun h => h)
                  have z3 : ∀ z2 : WC (Gr wr), z2.val.cell? ⟨q7, t * 7 + 1, none⟩ = some (.slice (x t).x.aa (n.h t).v.act.length (x t).x.ac) := fun z2 => z2.ok.cell ((by rw [Lib.cell_of_heap B2.out]; exact (hs_cell n.h x ht4 (j := 1) (by decide)).trans rfl)) (fun h => h)
                  have z4 : ∀ z2 : WC (Gr wr), z2.val.cell? ⟨q7, t * 7 + 2, none⟩ = some (.int .i64 (n.h t).v.am) := fun z2 => z2.ok.cell ((by rw [Lib.cell_of_heap B2.out]; exact (hs_cell n.h x ht4 (j := 2) (by decide)).trans rfl)) (fun h => h)
                  have z5 : ∀ z2 : WC (Gr wr), z2.val.cell? ⟨q10, i * 4 + t, none⟩ = some (.slice w1a (ws i t).length w1c) := fun z2 => z2.ok.cell ((by rw [ST2.out.cell 0 (i * 4 + t) rfl (ws_get v (by omega))]; exact congrArg some HV1.out)) (fun h => h)
                  have z6 : ∀ z2 : WC (Gr wr), z2.val.cell? ⟨q10, t * 4 + i, none⟩ = some (.slice w2a (ws t i).length w2c) := fun z2 => z2.ok.cell ((by rw [ST2.out.cell 0 (t * 4 + i) rfl (ws_get v (by omega))]; exact congrArg some HV2.out)) (fun h => h)
                  refine wp_region_plan [7, 16] (Plan.seq [0, 1, 2, 3, 4, 5, 6, 7, 8, 9, 10, 11, 12, 13, 14, 15, 16, 17, 18, 19, 20, 21, 22, 23, 24, 25, 26, 27, 28, 29, 30, 31, 32, 33, 34] .done) (fun w' => ∃ z' : WC (Gr wr), w' = z'.val) (by kernel_rfl) (by kernel_rfl) (fun c a w d v h => by cases d <;> exact h) (fun c a w d v h => by cases d <;> exact h) ⟨⟨wr.drew, (Fr.refl _ _).drew⟩, rfl⟩ ?_
                  simp only [Plan.seq, List.foldr]
                  refine wpV_q (by simp only [List.getElem?_toArray, List.getElem?_cons_zero] <;> rfl) (by rfl) (by rfl) ?_
                  go_big_quiet_step (fail)
                  refine wpQuiet_nil ?_
                  repeat (refine wpV_q (by simp only [List.getElem?_toArray, List.getElem?_cons_succ, List.getElem?_cons_zero] <;> rfl) (by rfl) (by rfl) ?_; go_big_quiet_step (fail); refine wpQuiet_nil ?_)
                  refine wpV_e (by simp only [List.getElem?_toArray, List.getElem?_cons_succ, List.getElem?_cons_zero] <;> rfl) (by rfl) ?_
                  go_wp2_with fail
                  refine (CA.out _ (show Gr wr wr.drew from (Fr.refl _ _).drew)).mono ?_
                  rintro e w2 ⟨rfl, f2⟩
                  have Fw2 : Gr wr w2 := Gr.trans (show Gr wr wr.drew from (Fr.refl _ _).drew) f2
                  go_wp2_with fail
                  refine ⟨⟨⟨w2, Fw2⟩, rfl⟩, ?_⟩
                  repeat (refine wpV_q (by simp only [List.getElem?_toArray, List.getElem?_cons_succ, List.getElem?_cons_zero] <;> rfl) (by rfl) (by rfl) ?_; go_big_quiet_step (fail); refine wpQuiet_nil ?_)
                  refine wpV_e (by simp only [List.getElem?_toArray, List.getElem?_cons_succ, List.getElem?_cons_zero] <;> rfl) (by rfl) ?_
                  go_wp2_with fail
                  refine (CB.out _ Fw2).mono ?_
                  rintro e w3 ⟨rfl, f3⟩
                  have Fw3 : Gr wr w3 := Gr.trans Fw2 f3
                  go_wp2_with fail
                  refine ⟨⟨⟨w3, Fw3⟩, rfl⟩, ?_⟩
                  repeat (refine wpV_q (by simp only [List.getElem?_toArray, List.getElem?_cons_succ, List.getElem?_cons_zero] <;> rfl) (by rfl) (by rfl) ?_; go_big_quiet_step (fail); refine wpQuiet_nil ?_)
                  clear f2 f3 Fw2
                  refine wpV_done ?_
                  have FZ := Lib.hid Fw3
                  clear this z1 z2 z3 z4 z5 z6
                  go_wp2_with fail
                  go_roundw
                  case rel => exact ⟨t + 1, by go_num, ht4, Gr.trans GT.out FZ.out⟩
                  case measure => simp [intOf]; omega
                case false =>
                  have hz : ((((ws i t).length : Int) + ((ws t i).length : Int)) == 0) = false := by
                    simp
                    intro e
                    have h1 : (ws i t).length = 0 := by omega
                    have h2 : (ws t i).length = 0 := by omega
                    have h3 := HR.out (List.eq_nil_of_length_eq_zero h1) (List.eq_nil_of_length_eq_zero h2) rfl
                    have h4 := (has_iff _ _).2 h3
                    rw [← HC2.out] at h4
                    cases h4
                  have b1 := HLN2.out i t
                  have b2 := HLN2.out t i
                  haveI : Nonempty (WC (Gr wr)) := ⟨⟨wr, Fr.refl _ _⟩⟩
                  have z1 : ∀ z2 : WC (Gr wr), z2.val.cell? ⟨q7, i * 7 + 1, none⟩ = some (.slice (x i).x.aa (n.h i).v.act.length (x i).x.ac) := fun z2 => z2.ok.cell ((by rw [Lib.cell_of_heap B2.out]; exact (hs_cell n.h x hi4 (j := 1) (by decide)).trans rfl)) (fun h => h)
                  have z2 : ∀ z2 : WC (Gr wr), z2.val.cell? ⟨q7, i * 7 + 2, none⟩ = some (.int .i64 (n.h i).v.am) := fun z2 => z2.ok.cell ((by rw [Lib.cell_of_heap B2.out]; exact (hs_cell n.h x hi4 (j := 2) (by decide)).trans rfl)) (fun h => h)
                  have z3 : ∀ z2 : WC (Gr wr), z2.val.cell? ⟨q7, t * 7 + 1, none⟩ = some (.slice (x t).x.aa (n.h t).v.act.length (x t).x.ac) := fun z2 => z2.ok.cell ((by rw [Lib.cell_of_heap B2.out]; exact (hs_cell n.h x ht4 (j := 1) (by decide)).trans rfl)) (fun h => h)
                  have z4 : ∀ z2 : WC (Gr wr), z2.val.cell? ⟨q7, t * 7 + 2, none⟩ = some (.int .i64 (n.h t).v.am) := fun z2 => z2.ok.cell ((by rw [Lib.cell_of_heap B2.out]; exact (hs_cell n.h x ht4 (j := 2) (by decide)).trans rfl)) (fun h => h)
                  have z5 : ∀ z2 : WC (Gr wr), z2.val.cell? ⟨q10, i * 4 + t, none⟩ = some (.slice w1a (ws i t).length w1c) := fun z2 => z2.ok.cell ((by rw [ST2.out.cell 0 (i * 4 + t) rfl (ws_get v (by omega))]; exact congrArg some HV1.out)) (fun h => h)
                  have z6 : ∀ z2 : WC (Gr wr), z2.val.cell? ⟨q10, t * 4 + i, none⟩ = some (.slice w2a (ws t i).length w2c) := fun z2 => z2.ok.cell ((by rw [ST2.out.cell 0 (t * 4 + i) rfl (ws_get v (by omega))]; exact congrArg some HV2.out)) (fun h => h)
                  refine wp_region_plan [7, 16] (Plan.seq [0, 1, 2, 3, 4, 5, 6, 7, 8, 9, 10, 11, 12, 13, 14, 15, 16, 17, 18, 19, 20, 21, 22, 23, 24, 25, 26, 27, 28, 29, 30, 31, 32, 33, 34] .done) (fun w' => ∃ z' : WC (Gr wr), w' = z'.val) (by kernel_rfl) (by kernel_rfl) (fun c a w d v h => by cases d <;> exact h) (fun c a w d v h => by cases d <;> exact h) ⟨⟨wr.drew, (Fr.refl _ _).drew⟩, rfl⟩ ?_
                  simp only [Plan.seq, List.foldr]
                  refine wpV_q (by simp only [List.getElem?_toArray, List.getElem?_cons_zero] <;> rfl) (by rfl) (by rfl) ?_
                  go_big_quiet_step (fail)
                  refine wpQuiet_nil ?_
                  repeat (refine wpV_q (by simp only [List.getElem?_toArray, List.getElem?_cons_succ, List.getElem?_cons_zero] <;> rfl) (by rfl) (by rfl) ?_; go_big_quiet_step (fail); refine wpQuiet_nil ?_)
                  refine wpV_e (by simp only [List.getElem?_toArray, List.getElem?_cons_succ, List.getElem?_cons_zero] <;> rfl) (by rfl) ?_
                  go_wp2_with fail
                  refine (CA.out _ (show Gr wr wr.drew from (Fr.refl _ _).drew)).mono ?_
                  rintro e w2 ⟨rfl, f2⟩
                  have Fw2 : Gr wr w2 := Gr.trans (show Gr wr wr.drew from (Fr.refl _ _).drew) f2
                  go_wp2_with fail
                  refine ⟨⟨⟨w2, Fw2⟩, rfl⟩, ?_⟩
                  repeat (refine wpV_q (by simp only [List.getElem?_toArray, List.getElem?_cons_succ, List.getElem?_cons_zero] <;> rfl) (by rfl) (by rfl) ?_; go_big_quiet_step (fail); refine wpQuiet_nil ?_)
                  refine wpV_e (by simp only [List.getElem?_toArray, List.getElem?_cons_succ, List.getElem?_cons_zero] <;> rfl) (by rfl) ?_
                  go_wp2_with fail
                  refine (CB.out _ Fw2).mono ?_
                  rintro e w3 ⟨rfl, f3⟩
                  have Fw3 : Gr wr w3 := Gr.trans Fw2 f3
                  go_wp2_with fail
                  refine ⟨⟨⟨w3, Fw3⟩, rfl⟩, ?_⟩
                  repeat (refine wpV_q (by simp only [List.getElem?_toArray, List.getElem?_cons_succ, List.getElem?_cons_zero] <;> rfl) (by rfl) (by rfl) ?_; go_big_quiet_step (fail); refine wpQuiet_nil ?_)
                  clear f2 f3 Fw2
                  refine wpV_done ?_
                  have FZ := Lib.hid Fw3
                  clear this z1 z2 z3 z4 z5 z6
                  go_wp2_with fail
                  go_roundw
                  case rel => exact ⟨t + 1, by go_num, ht4, Gr.trans GT.out FZ.out⟩
                  case measure => simp [intOf]; omega
            · obtain rfl : t = 4 := by omega
              go_wp2_with fail
              go_roundw
              case rel => exact ⟨i + 1, by go_num, hi4, GT.out⟩
              case measure => simp [intOf]; omega
        · obtain rfl : i = 4 := by omega
          go_wp2_with fail
          exact HK.out _ _ _ _ _ _ _ _ _ _ _ _ _ _ _ _ _ _ _ _ _ _ _ _ _ _ _ _ _ _ _ _ _ _ _ _ _ _ _ _ _ _ _ _ _ _ _ _ _ _ _ _ _ _ _ _ _ _ _ _ _ _ _ _ _ _ _ _ _ _ _ _ _ _ _ _ _ _ _ _ _ _ _ _ _ _ _ _ _ _ _ _ _ _ _ _ _ _ _ _ _ _ _ _ _ _ _ _ _ _ _ _ _ _ _ _ _ _ _ _ _ _ _ _ _ _ _ _ _ _ _ _ _ _ _ _ _ _ _ _ _ _ _ _ _ _ _ _ _ _ _ _ _ _ _ _ _ _ _ _ _ _ _ _ _ _ _ _ _ _ _ _ _ _ _ _ _ _ _ _ _ _ _ _ _ _ _ _ _ _ _ _ _ _ _ _ _ _ _ _ _ _ _ _ _ _ _ _ _ _ _ _ _ _ _ _ _ _ _ _ _ _ _ _ _ _ _ _ _ _ _ _ _ _ _ _ _ _ _ _ _ _ _ _ _ _ _ _ _ _ _ _ _ _ _ _ _ _ _ _ _ _ _ _ _ ⟨Wb, ⟨n.h, ws⟩, x, v, ds, HN.out, HLN2.out, FB.out, H7.out, blk_keep GI.out BF.out (fun h => h), (ST1.out.gr GI.out).less (List.Sublist.refl _) (fun _ h => List.mem_cons_of_mem _ h)⟩
set_option maxHeartbeats 16000000 in
set_option maxRecDepth 100000 in
theorem hp_round {W : World} {q7 q10 : Nat} {dp : Value} {k : Nat} {u0 u1 u2 u3 u4 u5 u8 u22 u23 u24 u25 u26 u27 u28 u29 u30 u31 u32 u33 u34 u35 u36 u37 u38 : Value} {K N K2 : Act → World → Prop} {P : Ending → World → Prop} {wr : World} {Wb : World} {n : Net} {x : Nat → HdP} {v : Nat → Value} {ds : List Int} {q12 : Nat} {ch : LCh} {u6 u13 u14 u15 u16 u17 u18 u19 u20 u21 u39 u40 u41 u42 u43 u44 u45 u46 u47 u48 u49 u50 u51 u52 u53 u54 u55 u56 u57 u58 u59 u60 u61 u62 u63 u64 u65 u66 u67 u68 u69 u70 u71 u72 u73 u74 u75 u76 u77 u78 u79 u80 u81 u82 u83 u84 u85 u86 u87 u88 u89 u90 u91 u92 u93 u94 u95 u96 u97 u98 u99 u100 u101 u102 u103 u104 u105 u106 u107 u108 u109 u110 u111 u112 u113 u114 u115 u116 u117 u118 u119 u120 u121 u122 u123 u124 u125 u126 u127 u128 u129 u130 u131 u132 u133 u134 u135 u136 u137 u138 u139 u140 u141 u142 u143 u144 u145 u146 u147 u148 u149 u150 u151 u152 u153 u154 u155 u156 u157 u158 u159 u160 u161 u162 u163 u164 u165 u166 u167 u168 u169 u170 u171 u172 u173 u174 u175 u176 u177 u178 u179 u180 u181 u182 u183 u184 u185 u186 u187 u188 u189 u190 u191 u192 u193 u194 u195 u196 u197 u198 u199 u200 u201 u202 u203 u204 u205 u206 u207 u208 u209 u210 u211 u212 u213 u214 u215 u216 u217 u218 u219 u220 u221 u222 u223 u224 u225 u226 u227 u228 u229 u230 u231 u232 u233 u234 u235 u236 u237 u238 u239 u240 u241 u242 u243 u244 u245 u246 u247 u248 u249 u250 u251 u252 u253 u254 u255 u256 u257 u258 u259 u260 u261 u262 u263 u264 u265 u266 u267 u268 u269 u270 u271 u272 u273 u274 u275 u276 u277 u278 u279 u280 u281 u282 u283 u284 u285 u286 u287 u288 u289 u290 u291 : Value}
    (HK : Hid (HpK W q7 q10 dp k u0 u1 u2 u3 u4 u5 u8 u22 u23 u24 u25 u26 u27 u28 u29 u30 u31 u32 u33 u34 u35 u36 u37 u38 K)) (HWQ : Hid (W.heap.size ≤ q7)) (HPW : Hid (∀ k, pblk dp k → W.heap.size ≤ k ∧ k ≠ q7)) (hk4 : k < 400)
    (HN : Hid (NInv n)) (HLN : Hid (∀ i j, (n.w i j).length ≤ 2 * k)) (FB : Hid (Gr W Wb)) (H7 : Hid (q7 < Wb.heap.size)) (B7 : Hid (wr.heap[q7]? = some (.cells (hsArr n.h x) 32 (0, 0)))) (HOK : Hid ch.Ok)
    (ST1 : Hid (Sta Wb (fun k => k ≠ q7) dp ds [⟨q12, ch.arr, 40⟩, ⟨q10, wsArr v, 38⟩] (ownW (fun m => n.w (m / 4) (m % 4)) v) (rowsN n.h x) wr)) :
    Code.wp Try.prog (codeAt [1, 1, 1, 1, 1, 1, 0, 1, 0, 0, 1, 0, 0, 1, 1, 0] (Try.f3.body.getD .skip)) (Exit.then (fun a w => Code.wp Try.prog (codeAt [1, 1, 1, 1, 1, 1, 0, 1, 0, 0, 1, 0, 0, 1, 1, 1] (Try.f3.body.getD .skip)) (Exit.inBlock 3 (Exit.then K (Exit.then N (Exit.inBlock 2 (Exit.then K2 (bodyPost Try.prog Try.f3 P)))))) a w) (Exit.inBlock 3 (Exit.then K (Exit.then N (Exit.inBlock 2 (Exit.then K2 (bodyPost Try.prog Try.f3 P))))))) ⟨List.toArray (u0 :: u1 :: u2 :: u3 :: u4 :: u5 :: u6 :: .pointer (some ⟨q7, 0, none⟩) :: u8 :: dp :: .pointer (some ⟨q10, 0, none⟩) :: .int .i64 (k : Int) :: .pointer (some ⟨q12, 0, none⟩) :: u13 :: u14 :: u15 :: u16 :: u17 :: u18 :: u19 :: u20 :: u21 :: u22 :: u23 :: u24 :: u25 :: u26 :: u27 :: u28 :: u29 :: u30 :: u31 :: u32 :: u33 :: u34 :: u35 :: u36 :: u37 :: u38 :: u39 :: u40 :: u41 :: u42 :: u43 :: u44 :: u45 :: u46 :: u47 :: u48 :: u49 :: u50 :: u51 :: u52 :: u53 :: u54 :: u55 :: u56 :: u57 :: u58 :: u59 :: u60 :: u61 :: u62 :: u63 :: u64 :: u65 :: u66 :: u67 :: u68 :: u69 :: u70 :: u71 :: u72 :: u73 :: u74 :: u75 :: u76 :: u77 :: u78 :: u79 :: u80 :: u81 :: u82 :: u83 :: u84 :: u85 :: u86 :: u87 :: u88 :: u89 :: u90 :: u91 :: u92 :: u93 :: u94 :: u95 :: u96 :: u97 :: u98 :: u99 :: u100 :: u101 :: u102 :: u103 :: u104 :: u105 :: u106 :: u107 :: u108 :: u109 :: u110 :: u111 :: u112 :: u113 :: u114 :: u115 :: u116 :: u117 :: u118 :: u119 :: u120 :: u121 :: u122 :: u123 :: u124 :: u125 :: u126 :: u127 :: u128 :: u129 :: u130 :: u131 :: u132 :: u133 :: u134 :: u135 :: u136 :: u137 :: u138 :: u139 :: u140 :: u141 :: u142 :: u143 :: u144 :: u145 :: u146 :: u147 :: u148 :: u149 :: u150 :: u151 :: u152 :: u153 :: u154 :: u155 :: u156 :: u157 :: u158 :: u159 :: u160 :: u161 :: u162 :: u163 :: u164 :: u165 :: u166 :: u167 :: u168 :: u169 :: u170 :: u171 :: u172 :: u173 :: u174 :: u175 :: u176 :: u177 :: u178 :: u179 :: u180 :: u181 :: u182 :: u183 :: u184 :: u185 :: u186 :: u187 :: u188 :: u189 :: u190 :: u191 :: u192 :: u193 :: u194 :: u195 :: u196 :: u197 :: u198 :: u199 :: u200 :: u201 :: u202 :: u203 :: u204 :: u205 :: u206 :: u207 :: u208 :: u209 :: u210 :: u211 :: u212 :: u213 :: u214 :: u215 :: u216 :: u217 :: u218 :: u219 :: u220 :: u221 :: u222 :: u223 :: u224 :: u225 :: u226 :: u227 :: u228 :: u229 :: u230 :: u231 :: u232 :: u233 :: u234 :: u235 :: u236 :: u237 :: u238 :: u239 :: u240 :: u241 :: u242 :: u243 :: u244 :: u245 :: u246 :: u247 :: u248 :: u249 :: u250 :: u251 :: u252 :: u253 :: u254 :: u255 :: u256 :: u257 :: u258 :: u259 :: u260 :: u261 :: u262 :: u263 :: u264 :: u265 :: u266 :: u267 :: u268 :: u269 :: u270 :: u271 :: u272 :: u273 :: u274 :: u275 :: u276 :: u277 :: u278 :: u279 :: u280 :: u281 :: u282 :: u283 :: u284 :: u285 :: u286 :: u287 :: u288 :: u289 :: u290 :: u291 :: []), []⟩ wr := by
  conv => arg 2; whnf
  obtain ⟨cw, ca, cb, chh⟩ := ch
  obtain ⟨⟨hw0, hw1⟩, ⟨ha0, ha1⟩, hb0, hb1⟩ := HOK.out
  simp only at hw0 hw1 ha0 ha1 hb0 hb1
  clear HOK
  obtain ⟨a, hA, ha4⟩ : ∃ a : Nat, ca.tmod 4 = (a : Int) ∧ a < 4 := ⟨(ca.tmod 4).toNat, by have := Int.tmod_nonneg 4 ha0; have := Int.tmod_lt_of_pos ca (show (0 : Int) < 4 by decide); omega, by have := Int.tmod_nonneg 4 ha0; have := Int.tmod_lt_of_pos ca (show (0 : Int) < 4 by decide); omega⟩
  obtain ⟨b, hB, hb4⟩ : ∃ b : Nat, cb.tmod 4 = (b : Int) ∧ b < 4 := ⟨(cb.tmod 4).toNat, by have := Int.tmod_nonneg 4 hb0; have := Int.tmod_lt_of_pos cb (show (0 : Int) < 4 by decide); omega, by have := Int.tmod_nonneg 4 hb0; have := Int.tmod_lt_of_pos cb (show (0 : Int) < 4 by decide); omega⟩
  have y1 : wr.cell? ⟨q12, 1, none⟩ = some (.int .u8 ca) := ST1.out.cell 0 1 rfl rfl
  have y2 : wr.cell? ⟨q12, 2, none⟩ = some (.int .u8 cb) := ST1.out.cell 0 2 rfl rfl
  go_upto_region 17 with fail
  go_quiet (fail)
  obtain ⟨w2, hw2⟩ : ∃ w2, w2 = wr.drewN nq := ⟨_, rfl⟩
  rw [← hw2]
  have B72 := Lib.hid (show w2.heap[q7]? = some (.cells (hsArr n.h x) 32 (0, 0)) from hw2 ▸ blk_keep (Fr.drewN (Fr.refl (fun _ => False) wr) nq) B7.out (fun h => h))
  have ST2 := Lib.hid (show Sta Wb (fun k => k ≠ q7) dp ds [⟨q12, (⟨cw, ca, cb, chh⟩ : LCh).arr, 40⟩, ⟨q10, wsArr v, 38⟩] (ownW (fun m => n.w (m / 4) (m % 4)) v) (rowsN n.h x) w2 from hw2 ▸ ST1.out.gr ((Fr.refl _ _).drewN nq))
  clear ST1 hw2 y1 y2 B7
  go_wp2_with fail
  conv => arg 2; whnf
  by_cases hab : a = b
  · subst hab
    go_wp2_with fail
    exact HK.out _ _ _ _ _ _ _ _ _ _ _ _ _ _ _ _ _ _ _ _ _ _ _ _ _ _ _ _ _ _ _ _ _ _ _ _ _ _ _ _ _ _ _ _ _ _ _ _ _ _ _ _ _ _ _ _ _ _ _ _ _ _ _ _ _ _ _ _ _ _ _ _ _ _ _ _ _ _ _ _ _ _ _ _ _ _ _ _ _ _ _ _ _ _ _ _ _ _ _ _ _ _ _ _ _ _ _ _ _ _ _ _ _ _ _ _ _ _ _ _ _ _ _ _ _ _ _ _ _ _ _ _ _ _ _ _ _ _ _ _ _ _ _ _ _ _ _ _ _ _ _ _ _ _ _ _ _ _ _ _ _ _ _ _ _ _ _ _ _ _ _ _ _ _ _ _ _ _ _ _ _ _ _ _ _ _ _ _ _ _ _ _ _ _ _ _ _ _ _ _ _ _ _ _ _ _ _ _ _ _ _ _ _ _ _ _ _ _ _ _ _ _ _ _ _ _ _ _ _ _ _ _ _ _ _ _ _ _ _ _ _ _ _ _ _ _ _ _ _ _ _ _ _ _ _ _ _ _ _ _ _ _ _ _ _ ⟨Wb, n, x, v, ds, HN.out, fun i j => Nat.le_trans (HLN.out i j) (by omega), FB.out, H7.out, B72.out, ST2.out.dropB (List.Sublist.cons _ (List.Sublist.refl _))⟩
  have hab2 : ((a : Int) == (b : Int)) = false := by simp; omega
  have y0 : w2.cell? ⟨q12, 0, none⟩ = some (.int .u8 cw) := ST2.out.cell 0 0 rfl rfl
  obtain ⟨cm, hcm⟩ : ∃ m, cw.tmod 7 = m := ⟨_, rfl⟩
  go_upto_region 21 with fail
  have HPQ := Lib.hid (show ¬ pblk dp q7 from fun h => (HPW.out _ h).2 rfl)
  have BW := Lib.hid ((ST2.out.olds H7.out HPQ.out).1 B72.out)
  clear B72
  cases e0 : (cm == 0)
  case true =>
    have CP := Lib.hid (fun O w (h1 : Sta w O dp ds [] [] (hrows (n.h a) (x a) []) w) => handAsk_any (n.h a) (x a) ((b : Int) + 1) chh dp ds O w h1 (HN.out.hi a ha4).good)
    have hI := HN.out.ask ha4 hb4 hab chh
    have hF := hAsk_outs (n.h a) ((b : Int) + 1) chh
    unfold nAsk at hI
    obtain ⟨h', o', e1⟩ : ∃ c d, hAsk (n.h a) ((b : Int) + 1) chh = (c, d) := ⟨_, _, rfl⟩
    rw [e1] at hI hF CP
    simp only at hI hF CP
    have HI := Lib.hid hI
    have HF := Lib.hid hF
    clear hI hF e1
    go_upto_region 38 with fail
    obtain ⟨wd, hwd⟩ : ∃ x, x = w2.drew := ⟨_, rfl⟩
    have HWD := Lib.hid hwd
    have ST3 := Lib.hid (show Sta Wb (fun k => k ≠ q7) dp ds [⟨q12, (⟨cw, ca, cb, chh⟩ : LCh).arr, 40⟩, ⟨q10, wsArr v, 38⟩] (ownW (fun m => n.w (m / 4) (m % 4)) v) (rowsN n.h x) wd from hwd ▸ ST2.out.gr ((Fr.refl _ _).drew))
    clear ST2 hwd
    haveI : Nonempty (WC (fun w => w.cell? ⟨q12, 3, none⟩ = some (.bool chh))) := ⟨⟨wd, (ST3.out.cell 0 3 rfl rfl)⟩⟩
    have zc : ∀ z : WC (fun w => w.cell? ⟨q12, 3, none⟩ = some (.bool chh)), z.val.cell? ⟨q12, 3, none⟩ = some (.bool chh) := fun z => z.ok
    refine wp_region_plan [3, 8, 13, 14] (Plan.seq [0, 1, 2, 3, 4, 5, 6, 7, 8, 9, 10, 11, 12, 13, 14] .done) (fun w' => ∃ z : WC (fun w => w.cell? ⟨q12, 3, none⟩ = some (.bool chh)), w' = z.val) (by kernel_rfl) (by kernel_rfl) (fun c a w d v h => by cases d <;> exact h) (fun c a w d v h => by cases d <;> exact h) (by rw [← HWD.out]; exact ⟨⟨wd, (ST3.out.cell 0 3 rfl rfl)⟩, rfl⟩) ?_
    rw [← HWD.out]
    clear HWD
    refine wpV_q (by simp only [List.getElem?_toArray, List.getElem?_cons_zero] <;> rfl) (by rfl) (by rfl) ?_
    go_big_quiet_step (fail)
    refine wpQuiet_nil ?_
    refine wpV_q (by simp only [List.getElem?_toArray, List.getElem?_cons_succ, List.getElem?_cons_zero] <;> rfl) (by rfl) (by rfl) ?_
    go_big_quiet_step (fail)
    refine wpQuiet_nil ?_
    refine wpV_q (by simp only [List.getElem?_toArray, List.getElem?_cons_succ, List.getElem?_cons_zero] <;> rfl) (by rfl) (by rfl) ?_
    go_big_quiet_step (fail)
    refine wpQuiet_nil ?_
    refine wpV_e (by simp only [List.getElem?_toArray, List.getElem?_cons_succ, List.getElem?_cons_zero] <;> rfl) (by rfl) ?_
    refine wpList_load_mid (by rfl) 31 _ (by rfl) q7 (a * 7) (by rfl) (Array.toList ((n.h a).arr (x a))) _ (rangeIn ((ST3.out.olds H7.out HPQ.out).2 BW.out) (a * 7) (hs_get n.h x ha4)) Try.underlying31 rfl Try.infoHand ?_
    refine wpList_nil ?_
    refine ⟨⟨⟨wd, (ST3.out.cell 0 3 rfl rfl)⟩, rfl⟩, ?_⟩
    simp only [Act.put, List.setIfInBounds_toArray, List.set_cons_succ, List.set_cons_zero]
    refine wpV_q (by simp only [List.getElem?_toArray, List.getElem?_cons_succ, List.getElem?_cons_zero] <;> rfl) (by rfl) (by rfl) ?_
    go_big_quiet_step (fail)
    refine wpQuiet_nil ?_
    refine wpV_q (by simp only [List.getElem?_toArray, List.getElem?_cons_succ, List.getElem?_cons_zero] <;> rfl) (by rfl) (by rfl) ?_
    go_big_quiet_step (fail)
    refine wpQuiet_nil ?_
    refine wpV_q (by simp only [List.getElem?_toArray, List.getElem?_cons_succ, List.getElem?_cons_zero] <;> rfl) (by rfl) (by rfl) ?_
    go_big_quiet_step (fail)
    refine wpQuiet_nil ?_
    refine wpV_q (by simp only [List.getElem?_toArray, List.getElem?_cons_succ, List.getElem?_cons_zero] <;> rfl) (by rfl) (by rfl) ?_
    go_big_quiet_step (fail)
    refine wpQuiet_nil ?_
    refine wpV_e (by simp only [List.getElem?_toArray, List.getElem?_cons_succ, List.getElem?_cons_zero] <;> rfl) (by rfl) ?_
    go_wp2_with fail
    refine (CP.out _ _ (ST3.out.enter (hrows (n.h a) (x a) []) (rowsN_in n.h x ha4))).mono ?_
    intro e wc hst
    obtain ⟨x', ov, rfl, hst2, -⟩ := hst
    obtain ⟨ra, rc, rfl, hst3⟩ := (ST3.out.leave (rowsN_in n.h x ha4) hst2).asRow 0 rfl
    have ST4 := Lib.hid (show Sta Wb (fun k => k ≠ q7) dp ds [⟨q12, (⟨cw, ca, cb, chh⟩ : LCh).arr, 40⟩, ⟨q10, wsArr v, 38⟩] (ownW (fun m => n.w (m / 4) (m % 4)) v) (⟨ra, o'.length, rc, houts o'⟩ :: hrows h' x' (rowsN n.h x)) wc from hst3)
    clear hst2 hst3 CP ST3
    go_wp2_with fail
    refine ⟨⟨⟨wc, (ST4.out.cell 0 3 rfl rfl)⟩, rfl⟩, ?_⟩
    refine wpV_q (by simp only [List.getElem?_toArray, List.getElem?_cons_succ, List.getElem?_cons_zero] <;> rfl) (by rfl) (by rfl) ?_
    go_big_quiet_step (fail)
    refine wpQuiet_nil ?_
    refine wpV_q (by simp only [List.getElem?_toArray, List.getElem?_cons_succ, List.getElem?_cons_zero] <;> rfl) (by rfl) (by rfl) ?_
    go_big_quiet_step (fail)
    refine wpQuiet_nil ?_
    refine wpV_q (by simp only [List.getElem?_toArray, List.getElem?_cons_succ, List.getElem?_cons_zero] <;> rfl) (by rfl) (by rfl) ?_
    go_big_quiet_step (fail)
    refine wpQuiet_nil ?_
    refine wpV_q (by simp only [List.getElem?_toArray, List.getElem?_cons_succ, List.getElem?_cons_zero] <;> rfl) (by rfl) (by rfl) ?_
    go_big_quiet_step (fail)
    refine wpQuiet_nil ?_
    refine wpV_e (by simp only [List.getElem?_toArray, List.getElem?_cons_succ, List.getElem?_cons_zero] <;> rfl) (by rfl) ?_
    refine wpList_store_mid (by rfl) 31 _ _ (by rfl) q7 (a * 7) (h'.arr x') (by rfl) (by rfl) (hs_there ((ST4.out.olds H7.out HPQ.out).2 BW.out) ha4) Try.infoHand (by rw [← Array.all_toList]; rfl) ?_
    obtain ⟨W2, g2, l2, b2, st2⟩ := ST4.out.putHand ((ST4.out.olds H7.out HPQ.out).2 BW.out) H7.out HPQ.out FB.out HWQ.out ha4 h' x' (R2 := ⟨ra, o'.length, rc, houts o'⟩ :: rowsN (upd n.h a h') (upd x a x')) (inC (List.mem_cons_self ..) (fun r hr => List.mem_cons_of_mem _ (rowsN_of n.h x ha4 h' x' r hr)))
    obtain ⟨we, hw_⟩ : ∃ x, x = wc.setCells q7 (a * 7) (h'.arr x').toList := ⟨_, rfl⟩
    rw [← hw_] at st2 b2 ⊢
    have ST5 := Lib.hid (show Sta W2 (fun k => k ≠ q7) dp ds [⟨q12, (⟨cw, ca, cb, chh⟩ : LCh).arr, 40⟩, ⟨q10, wsArr v, 38⟩] (ownW (fun m => n.w (m / 4) (m % 4)) v) (⟨ra, o'.length, rc, houts o'⟩ :: rowsN (upd n.h a h') (upd x a x')) we from st2)
    have G2 := Lib.hid g2
    have L2 := Lib.hid l2
    have B2 := Lib.hid b2
    clear hw_ st2 g2 l2 b2 ST4
    refine wpList_nil ?_
    refine ⟨⟨⟨we, (ST5.out.cell 0 3 rfl rfl)⟩, rfl⟩, ?_⟩
    simp only [Act.put]
    refine wpV_e (by simp only [List.getElem?_toArray, List.getElem?_cons_succ, List.getElem?_cons_zero] <;> rfl) (by rfl) ?_
    go_wp2_with fail
    refine ⟨⟨⟨we, (ST5.out.cell 0 3 rfl rfl)⟩, rfl⟩, ?_⟩
    refine wpV_done ?_
    clear zc this
    go_upto_block 6 with fail
    have HO := Lib.hid (show HpOut W q7 q10 dp (2 * k) (.slice ra o'.length rc) (.int .i64 a) we from ⟨W2, ⟨upd n.h a h', n.w⟩, upd x a x', v, ds, o', ra, rc, a, rfl, rfl, ha4, HI.out, fun i j => by have h1 := HLN.out i j; have h2 := HF.out.1; show (n.w i j).length + o'.length ≤ _; omega, HF.out.1, fun o ho => by have h1 := HF.out.2 o ho; omega, G2.out, L2.out, B2.out, ST5.out.dropB (List.Sublist.cons _ (List.Sublist.refl _))⟩)
    refine wp_tail ?_ (by assumption)
    exact hp_after HK HPW hk4 HO
  case false =>
    cases e1 : (cm == 1)
    case true =>
      have CP := Lib.hid (fun O w (h1 : Sta w O dp ds [] [] (hrows (n.h a) (x a) []) w) => handAsk_any (n.h a) (x a) ((b : Int) + 1) chh dp ds O w h1 (HN.out.hi a ha4).good)
      have hI := HN.out.ask ha4 hb4 hab chh
      have hF := hAsk_outs (n.h a) ((b : Int) + 1) chh
      unfold nAsk at hI
      obtain ⟨h', o', e1⟩ : ∃ c d, hAsk (n.h a) ((b : Int) + 1) chh = (c, d) := ⟨_, _, rfl⟩
      rw [e1] at hI hF CP
      simp only at hI hF CP
      have HI := Lib.hid hI
      have HF := Lib.hid hF
      clear hI hF e1
      go_upto_region 38 with fail
      obtain ⟨wd, hwd⟩ : ∃ x, x = w2.drew := ⟨_, rfl⟩
      have HWD := Lib.hid hwd
      have ST3 := Lib.hid (show Sta Wb (fun k => k ≠ q7) dp ds [⟨q12, (⟨cw, ca, cb, chh⟩ : LCh).arr, 40⟩, ⟨q10, wsArr v, 38⟩] (ownW (fun m => n.w (m / 4) (m % 4)) v) (rowsN n.h x) wd from hwd ▸ ST2.out.gr ((Fr.refl _ _).drew))
      clear ST2 hwd
      haveI : Nonempty (WC (fun w => w.cell? ⟨q12, 3, none⟩ = some (.bool chh))) := ⟨⟨wd, (ST3.out.cell 0 3 rfl rfl)⟩⟩
      have zc : ∀ z : WC (fun w => w.cell? ⟨q12, 3, none⟩ = some (.bool chh)), z.val.cell? ⟨q12, 3, none⟩ = some (.bool chh) := fun z => z.ok
      refine wp_region_plan [3, 8, 13, 14] (Plan.seq [0, 1, 2, 3, 4, 5, 6, 7, 8, 9, 10, 11, 12, 13, 14] .done) (fun w' => ∃ z : WC (fun w => w.cell? ⟨q12, 3, none⟩ = some (.bool chh)), w' = z.val) (by kernel_rfl) (by kernel_rfl) (fun c a w d v h => by cases d <;> exact h) (fun c a w d v h => by cases d <;> exact h) (by rw [← HWD.out]; exact ⟨⟨wd, (ST3.out.cell 0 3 rfl rfl)⟩, rfl⟩) ?_
      rw [← HWD.out]
      clear HWD
      refine wpV_q (by simp only [List.getElem?_toArray, List.getElem?_cons_zero] <;> rfl) (by rfl) (by rfl) ?_
      go_big_quiet_step (fail)
      refine wpQuiet_nil ?_
      refine wpV_q (by simp only [List.getElem?_toArray, List.getElem?_cons_succ, List.getElem?_cons_zero] <;> rfl) (by rfl) (by rfl) ?_
      go_big_quiet_step (fail)
      refine wpQuiet_nil ?_
      refine wpV_q (by simp only [List.getElem?_toArray, List.getElem?_cons_succ, List.getElem?_cons_zero] <;> rfl) (by rfl) (by rfl) ?_
      go_big_quiet_step (fail)
      refine wpQuiet_nil ?_
      refine wpV_e (by simp only [List.getElem?_toArray, List.getElem?_cons_succ, List.getElem?_cons_zero] <;> rfl) (by rfl) ?_
      refine wpList_load_mid (by rfl) 31 _ (by rfl) q7 (a * 7) (by rfl) (Array.toList ((n.h a).arr (x a))) _ (rangeIn ((ST3.out.olds H7.out HPQ.out).2 BW.out) (a * 7) (hs_get n.h x ha4)) Try.underlying31 rfl Try.infoHand ?_
      refine wpList_nil ?_
      refine ⟨⟨⟨wd, (ST3.out.cell 0 3 rfl rfl)⟩, rfl⟩, ?_⟩
      simp only [Act.put, List.setIfInBounds_toArray, List.set_cons_succ, List.set_cons_zero]
      refine wpV_q (by simp only [List.getElem?_toArray, List.getElem?_cons_succ, List.getElem?_cons_zero] <;> rfl) (by rfl) (by rfl) ?_
      go_big_quiet_step (fail)
      refine wpQuiet_nil ?_
      refine wpV_q (by simp only [List.getElem?_toArray, List.getElem?_cons_succ, List.getElem?_cons_zero] <;> rfl) (by rfl) (by rfl) ?_
      go_big_quiet_step (fail)
      refine wpQuiet_nil ?_
      refine wpV_q (by simp only [List.getElem?_toArray, List.getElem?_cons_succ, List.getElem?_cons_zero] <;> rfl) (by rfl) (by rfl) ?_
      go_big_quiet_step (fail)
      refine wpQuiet_nil ?_
      refine wpV_q (by simp only [List.getElem?_toArray, List.getElem?_cons_succ, List.getElem?_cons_zero] <;> rfl) (by rfl) (by rfl) ?_
      go_big_quiet_step (fail)
      refine wpQuiet_nil ?_
      refine wpV_e (by simp only [List.getElem?_toArray, List.getElem?_cons_succ, List.getElem?_cons_zero] <;> rfl) (by rfl) ?_
      go_wp2_with fail
      refine (CP.out _ _ (ST3.out.enter (hrows (n.h a) (x a) []) (rowsN_in n.h x ha4))).mono ?_
      intro e wc hst
      obtain ⟨x', ov, rfl, hst2, -⟩ := hst
      obtain ⟨ra, rc, rfl, hst3⟩ := (ST3.out.leave (rowsN_in n.h x ha4) hst2).asRow 0 rfl
      have ST4 := Lib.hid (show Sta Wb (fun k => k ≠ q7) dp ds [⟨q12, (⟨cw, ca, cb, chh⟩ : LCh).arr, 40⟩, ⟨q10, wsArr v, 38⟩] (ownW (fun m => n.w (m / 4) (m % 4)) v) (⟨ra, o'.length, rc, houts o'⟩ :: hrows h' x' (rowsN n.h x)) wc from hst3)
      clear hst2 hst3 CP ST3
      go_wp2_with fail
      refine ⟨⟨⟨wc, (ST4.out.cell 0 3 rfl rfl)⟩, rfl⟩, ?_⟩
      refine wpV_q (by simp only [List.getElem?_toArray, List.getElem?_cons_succ, List.getElem?_cons_zero] <;> rfl) (by rfl) (by rfl) ?_
      go_big_quiet_step (fail)
      refine wpQuiet_nil ?_
      refine wpV_q (by simp only [List.getElem?_toArray, List.getElem?_cons_succ, List.getElem?_cons_zero] <;> rfl) (by rfl) (by rfl) ?_
      go_big_quiet_step (fail)
      refine wpQuiet_nil ?_
      refine wpV_q (by simp only [List.getElem?_toArray, List.getElem?_cons_succ, List.getElem?_cons_zero] <;> rfl) (by rfl) (by rfl) ?_
      go_big_quiet_step (fail)
      refine wpQuiet_nil ?_
      refine wpV_q (by simp only [List.getElem?_toArray, List.getElem?_cons_succ, List.getElem?_cons_zero] <;> rfl) (by rfl) (by rfl) ?_
      go_big_quiet_step (fail)
      refine wpQuiet_nil ?_
      refine wpV_e (by simp only [List.getElem?_toArray, List.getElem?_cons_succ, List.getElem?_cons_zero] <;> rfl) (by rfl) ?_
      refine wpList_store_mid (by rfl) 31 _ _ (by rfl) q7 (a * 7) (h'.arr x') (by rfl) (by rfl) (hs_there ((ST4.out.olds H7.out HPQ.out).2 BW.out) ha4) Try.infoHand (by rw [← Array.all_toList]; rfl) ?_
      obtain ⟨W2, g2, l2, b2, st2⟩ := ST4.out.putHand ((ST4.out.olds H7.out HPQ.out).2 BW.out) H7.out HPQ.out FB.out HWQ.out ha4 h' x' (R2 := ⟨ra, o'.length, rc, houts o'⟩ :: rowsN (upd n.h a h') (upd x a x')) (inC (List.mem_cons_self ..) (fun r hr => List.mem_cons_of_mem _ (rowsN_of n.h x ha4 h' x' r hr)))
      obtain ⟨we, hw_⟩ : ∃ x, x = wc.setCells q7 (a * 7) (h'.arr x').toList := ⟨_, rfl⟩
      rw [← hw_] at st2 b2 ⊢
      have ST5 := Lib.hid (show Sta W2 (fun k => k ≠ q7) dp ds [⟨q12, (⟨cw, ca, cb, chh⟩ : LCh).arr, 40⟩, ⟨q10, wsArr v, 38⟩] (ownW (fun m => n.w (m / 4) (m % 4)) v) (⟨ra, o'.length, rc, houts o'⟩ :: rowsN (upd n.h a h') (upd x a x')) we from st2)
      have G2 := Lib.hid g2
      have L2 := Lib.hid l2
      have B2 := Lib.hid b2
      clear hw_ st2 g2 l2 b2 ST4
      refine wpList_nil ?_
      refine ⟨⟨⟨we, (ST5.out.cell 0 3 rfl rfl)⟩, rfl⟩, ?_⟩
      simp only [Act.put]
      refine wpV_e (by simp only [List.getElem?_toArray, List.getElem?_cons_succ, List.getElem?_cons_zero] <;> rfl) (by rfl) ?_
      go_wp2_with fail
      refine ⟨⟨⟨we, (ST5.out.cell 0 3 rfl rfl)⟩, rfl⟩, ?_⟩
      refine wpV_done ?_
      clear zc this
      go_upto_block 6 with fail
      have HO := Lib.hid (show HpOut W q7 q10 dp (2 * k) (.slice ra o'.length rc) (.int .i64 a) we from ⟨W2, ⟨upd n.h a h', n.w⟩, upd x a x', v, ds, o', ra, rc, a, rfl, rfl, ha4, HI.out, fun i j => by have h1 := HLN.out i j; have h2 := HF.out.1; show (n.w i j).length + o'.length ≤ _; omega, HF.out.1, fun o ho => by have h1 := HF.out.2 o ho; omega, G2.out, L2.out, B2.out, ST5.out.dropB (List.Sublist.cons _ (List.Sublist.refl _))⟩)
      refine wp_tail ?_ (by assumption)
      exact hp_after HK HPW hk4 HO
    case false =>
      cases e6 : (cm == 6)
      case true =>
        go_upto_region 40 with fail
        obtain ⟨wd, hwd⟩ : ∃ x, x = w2.drew := ⟨_, rfl⟩
        have HWD := Lib.hid hwd
        have ST3 := Lib.hid (show Sta Wb (fun k => k ≠ q7) dp ds [⟨q12, (⟨cw, ca, cb, chh⟩ : LCh).arr, 40⟩, ⟨q10, wsArr v, 38⟩] (ownW (fun m => n.w (m / 4) (m % 4)) v) (rowsN n.h x) wd from hwd ▸ ST2.out.gr ((Fr.refl _ _).drew))
        clear ST2 hwd
        haveI : Nonempty (WC (fun _ => True)) := ⟨⟨wd, trivial⟩⟩
        refine wp_region_plan [5, 7, 10, 13] (Plan.seq [0, 1, 2, 3, 4, 6, 8, 11] (.fork 5 7 (.take 9 (.fork 10 7 (.take 7 (.take 12 (.take 13 .done))) (.take 10 (.take 12 (.take 13 .done))))) (.take 5 (.take 9 (.take 10 (.take 12 (.take 13 .done))))))) (fun w' => ∃ z : WC (fun _ => True), w' = z.val) (by kernel_rfl) (by kernel_rfl) (fun c a w d v h => by cases d <;> exact h) (fun c a w d v h => by cases d <;> exact h) (by rw [← HWD.out]; exact ⟨⟨wd, trivial⟩, rfl⟩) ?_
        rw [← HWD.out]
        clear HWD
        refine wpV_q (by simp only [List.getElem?_toArray, List.getElem?_cons_zero] <;> rfl) (by rfl) (by rfl) ?_
        go_big_quiet_step (fail)
        refine wpQuiet_nil ?_
        refine wpV_q (by simp only [List.getElem?_toArray, List.getElem?_cons_succ, List.getElem?_cons_zero] <;> rfl) (by rfl) (by rfl) ?_
        go_big_quiet_step (fail)
        refine wpQuiet_nil ?_
        refine wpV_q (by simp only [List.getElem?_toArray, List.getElem?_cons_succ, List.getElem?_cons_zero] <;> rfl) (by rfl) (by rfl) ?_
        go_big_quiet_step (fail)
        refine wpQuiet_nil ?_
        refine wpV_q (by simp only [List.getElem?_toArray, List.getElem?_cons_succ, List.getElem?_cons_zero] <;> rfl) (by rfl) (by rfl) ?_
        go_big_quiet_step (fail)
        refine wpQuiet_nil ?_
        refine wpV_q (by simp only [List.getElem?_toArray, List.getElem?_cons_succ, List.getElem?_cons_zero] <;> rfl) (by rfl) (by rfl) ?_
        go_big_quiet_step (fail)
        refine wpQuiet_nil ?_
        refine wpV_q (by simp only [List.getElem?_toArray, List.getElem?_cons_succ, List.getElem?_cons_zero] <;> rfl) (by rfl) (by rfl) ?_
        go_big_quiet_step (fail)
        refine wpQuiet_nil ?_
        refine wpV_q (by simp only [List.getElem?_toArray, List.getElem?_cons_succ, List.getElem?_cons_zero] <;> rfl) (by rfl) (by rfl) ?_
        go_big_quiet_step (fail)
        refine wpQuiet_nil ?_
        refine wpV_q (by simp only [List.getElem?_toArray, List.getElem?_cons_succ, List.getElem?_cons_zero] <;> rfl) (by rfl) (by rfl) ?_
        go_big_quiet_step (fail)
        refine wpQuiet_nil ?_
        refine wpV_fork (by simp only [List.getElem?_toArray, List.getElem?_cons_succ, List.getElem?_cons_zero] <;> rfl) (by simp only [List.getElem?_toArray, List.getElem?_cons_succ, List.getElem?_cons_zero] <;> rfl) ?_ ?_
        · go_wp2_with fail
          obtain ⟨wn1, hw_⟩ : ∃ x, x = wd.alloc (.cells #[.int .i64 0, .bool false] 45) := ⟨_, rfl⟩
          obtain ⟨n1, hob_⟩ : ∃ b, b = wd.heap.size := ⟨_, rfl⟩
          rw [← hw_, ← hob_]
          have ST4 := Lib.hid (show Sta Wb (fun k => k ≠ q7) dp ds [⟨q12, (⟨cw, ca, cb, chh⟩ : LCh).arr, 40⟩, ⟨q10, wsArr v, 38⟩] (⟨45, 2, .slice (some ⟨n1, 0, none⟩) 1 1, 1, [.int .i64 0, .bool false]⟩ :: (ownW (fun m => n.w (m / 4) (m % 4)) v)) (rowsN n.h x) wn1 from hw_ ▸ ST3.out.ownNew ((Fr.refl _ _).alloc _) (xs := [.int .i64 0, .bool false]) (n := 1) (by rw [heap_alloc_if, if_pos hob_]) (Nat.le_of_eq hob_.symm) rfl (by decide))
          clear ST3 hw_ hob_
          refine ⟨⟨⟨wn1, trivial⟩, rfl⟩, ?_⟩
          refine wpV_q (by simp only [List.getElem?_toArray, List.getElem?_cons_succ, List.getElem?_cons_zero] <;> rfl) (by rfl) (by rfl) ?_
          go_big_quiet_step (fail)
          refine wpQuiet_nil ?_
          refine wpV_fork (by simp only [List.getElem?_toArray, List.getElem?_cons_succ, List.getElem?_cons_zero] <;> rfl) (by simp only [List.getElem?_toArray, List.getElem?_cons_succ, List.getElem?_cons_zero] <;> rfl) ?_ ?_
          · have zc : wn1.cell? ⟨q10, a * 4 + b, none⟩ = some (v (a * 4 + b)) := ST4.out.cell 1 _ rfl (ws_get _ (by omega))
            have zf : wn1.frozen? ⟨q10, a * 4 + b, none⟩ = false := ST4.out.froz 1 _ rfl
            go_wp2_with fail
            clear zc zf
            obtain ⟨ws1, hw_⟩ : ∃ x, x = wn1.setCell ⟨q10, a * 4 + b, none⟩ (.slice (some ⟨n1, 0, none⟩) 1 1) := ⟨_, rfl⟩
            rw [← hw_]
            have ST5 := Lib.hid (show Sta Wb (fun k => k ≠ q7) dp ds [⟨q12, (⟨cw, ca, cb, chh⟩ : LCh).arr, 40⟩, ⟨q10, wsArr (upd v (a * 4 + b) (.slice (some ⟨n1, 0, none⟩) 1 1)), 38⟩] (⟨45, 2, .slice (some ⟨n1, 0, none⟩) 1 1, 1, [.int .i64 0, .bool false]⟩ :: (ownW (fun m => n.w (m / 4) (m % 4)) v)) (rowsN n.h x) ws1 by
              rw [← ws_put _ (show a * 4 + b < 16 by omega)]
              exact hw_ ▸ ST4.out.setC 1 rfl (a * 4 + b) (.slice (some ⟨n1, 0, none⟩) 1 1) (by rw [ws_size]; omega))
            clear hw_ ST4
            refine ⟨⟨⟨ws1, trivial⟩, rfl⟩, ?_⟩
            refine wpV_e (by simp only [List.getElem?_toArray, List.getElem?_cons_succ, List.getElem?_cons_zero] <;> rfl) (by rfl) ?_
            go_wp2_with fail
            obtain ⟨wn2, hw_⟩ : ∃ x, x = ws1.alloc (.cells #[.int .i64 0, .bool false] 45) := ⟨_, rfl⟩
            obtain ⟨n2, hob_⟩ : ∃ b, b = ws1.heap.size := ⟨_, rfl⟩
            rw [← hw_, ← hob_]
            have ST6 := Lib.hid (show Sta Wb (fun k => k ≠ q7) dp ds [⟨q12, (⟨cw, ca, cb, chh⟩ : LCh).arr, 40⟩, ⟨q10, wsArr (upd v (a * 4 + b) (.slice (some ⟨n1, 0, none⟩) 1 1)), 38⟩] (⟨45, 2, .slice (some ⟨n2, 0, none⟩) 1 1, 1, [.int .i64 0, .bool false]⟩ :: ⟨45, 2, .slice (some ⟨n1, 0, none⟩) 1 1, 1, [.int .i64 0, .bool false]⟩ :: (ownW (fun m => n.w (m / 4) (m % 4)) v)) (rowsN n.h x) wn2 from hw_ ▸ ST5.out.ownNew ((Fr.refl _ _).alloc _) (xs := [.int .i64 0, .bool false]) (n := 1) (by rw [heap_alloc_if, if_pos hob_]) (Nat.le_of_eq hob_.symm) rfl (by decide))
            clear ST5 hw_ hob_
            refine ⟨⟨⟨wn2, trivial⟩, rfl⟩, ?_⟩
            refine wpV_q (by simp only [List.getElem?_toArray, List.getElem?_cons_succ, List.getElem?_cons_zero] <;> rfl) (by rfl) (by rfl) ?_
            go_big_quiet_step (fail)
            refine wpQuiet_nil ?_
            refine wpV_e (by simp only [List.getElem?_toArray, List.getElem?_cons_succ, List.getElem?_cons_zero] <;> rfl) (by rfl) ?_
            have zc : wn2.cell? ⟨q10, b * 4 + a, none⟩ = some ((upd v (a * 4 + b) (.slice (some ⟨n1, 0, none⟩) 1 1)) (b * 4 + a)) := ST6.out.cell 1 _ rfl (ws_get _ (by omega))
            have zf : wn2.frozen? ⟨q10, b * 4 + a, none⟩ = false := ST6.out.froz 1 _ rfl
            go_wp2_with fail
            clear zc zf
            obtain ⟨ws2, hw_⟩ : ∃ x, x = wn2.setCell ⟨q10, b * 4 + a, none⟩ (.slice (some ⟨n2, 0, none⟩) 1 1) := ⟨_, rfl⟩
            rw [← hw_]
            have ST7 := Lib.hid (show Sta Wb (fun k => k ≠ q7) dp ds [⟨q12, (⟨cw, ca, cb, chh⟩ : LCh).arr, 40⟩, ⟨q10, wsArr (upd (upd v (a * 4 + b) (.slice (some ⟨n1, 0, none⟩) 1 1)) (b * 4 + a) (.slice (some ⟨n2, 0, none⟩) 1 1)), 38⟩] (⟨45, 2, .slice (some ⟨n2, 0, none⟩) 1 1, 1, [.int .i64 0, .bool false]⟩ :: ⟨45, 2, .slice (some ⟨n1, 0, none⟩) 1 1, 1, [.int .i64 0, .bool false]⟩ :: (ownW (fun m => n.w (m / 4) (m % 4)) v)) (rowsN n.h x) ws2 by
              rw [← ws_put _ (show b * 4 + a < 16 by omega)]
              exact hw_ ▸ ST6.out.setC 1 rfl (b * 4 + a) (.slice (some ⟨n2, 0, none⟩) 1 1) (by rw [ws_size]; omega))
            clear hw_ ST6
            refine ⟨⟨⟨ws2, trivial⟩, rfl⟩, ?_⟩
            refine wpV_done ?_
            clear this
            have ST8 := Lib.hid (show Sta Wb (fun k => k ≠ q7) dp ds [⟨q12, (⟨cw, ca, cb, chh⟩ : LCh).arr, 40⟩, ⟨q10, wsArr (upd (upd v (a * 4 + b) (.slice (some ⟨n1, 0, none⟩) 1 1)) (b * 4 + a) (.slice (some ⟨n2, 0, none⟩) 1 1)), 38⟩] (ownW (fun m => (nBreak n a b).w (m / 4) (m % 4)) (upd (upd v (a * 4 + b) (.slice (some ⟨n1, 0, none⟩) 1 1)) (b * 4 + a) (.slice (some ⟨n2, 0, none⟩) 1 1))) (rowsN n.h x) ws2 from (ST7.out).way2 (l1 := [⟨0, false⟩]) (l2 := [⟨0, false⟩]) rfl rfl rfl rfl ha4 hb4 hb4 ha4)
            clear ST7
            go_upto_block 6 with fail
            have HO := Lib.hid (show HpOut W q7 q10 dp (2 * k) (.slice none 0 0) (.int .i64 a) ws2 from ⟨Wb, nBreak n a b, x, _, ds, [], none, 0, a, rfl, rfl, ha4, HN.out.brk hab, fun i j => by have h1 := nBrk_len (a := a) (b := b) HLN.out i j; show ((nBreak n a b).w i j).length + 0 ≤ _; omega, by decide, (fun o (h : o ∈ ([] : List Ho)) => nomatch h), FB.out, H7.out, ((ST8.out.olds H7.out HPQ.out).2 BW.out), (ST8.out.dropB (List.Sublist.cons _ (List.Sublist.refl _))).nilRow⟩)
            refine wp_tail ?_ (by assumption)
            exact hp_after HK HPW hk4 HO
          · go_wp2_with fail
            obtain ⟨wn2, hw_⟩ : ∃ x, x = wn1.alloc (.cells #[.int .i64 0, .bool false] 45) := ⟨_, rfl⟩
            obtain ⟨n2, hob_⟩ : ∃ b, b = wn1.heap.size := ⟨_, rfl⟩
            rw [← hw_, ← hob_]
            have ST5 := Lib.hid (show Sta Wb (fun k => k ≠ q7) dp ds [⟨q12, (⟨cw, ca, cb, chh⟩ : LCh).arr, 40⟩, ⟨q10, wsArr v, 38⟩] (⟨45, 2, .slice (some ⟨n2, 0, none⟩) 1 1, 1, [.int .i64 0, .bool false]⟩ :: ⟨45, 2, .slice (some ⟨n1, 0, none⟩) 1 1, 1, [.int .i64 0, .bool false]⟩ :: (ownW (fun m => n.w (m / 4) (m % 4)) v)) (rowsN n.h x) wn2 from hw_ ▸ ST4.out.ownNew ((Fr.refl _ _).alloc _) (xs := [.int .i64 0, .bool false]) (n := 1) (by rw [heap_alloc_if, if_pos hob_]) (Nat.le_of_eq hob_.symm) rfl (by decide))
            clear ST4 hw_ hob_
            refine ⟨⟨⟨wn2, trivial⟩, rfl⟩, ?_⟩
            refine wpV_e (by simp only [List.getElem?_toArray, List.getElem?_cons_succ, List.getElem?_cons_zero] <;> rfl) (by rfl) ?_
            have zc : wn2.cell? ⟨q10, a * 4 + b, none⟩ = some (v (a * 4 + b)) := ST5.out.cell 1 _ rfl (ws_get _ (by omega))
            have zf : wn2.frozen? ⟨q10, a * 4 + b, none⟩ = false := ST5.out.froz 1 _ rfl
            go_wp2_with fail
            clear zc zf
            obtain ⟨ws1, hw_⟩ : ∃ x, x = wn2.setCell ⟨q10, a * 4 + b, none⟩ (.slice (some ⟨n1, 0, none⟩) 1 1) := ⟨_, rfl⟩
            rw [← hw_]
            have ST6 := Lib.hid (show Sta Wb (fun k => k ≠ q7) dp ds [⟨q12, (⟨cw, ca, cb, chh⟩ : LCh).arr, 40⟩, ⟨q10, wsArr (upd v (a * 4 + b) (.slice (some ⟨n1, 0, none⟩) 1 1)), 38⟩] (⟨45, 2, .slice (some ⟨n2, 0, none⟩) 1 1, 1, [.int .i64 0, .bool false]⟩ :: ⟨45, 2, .slice (some ⟨n1, 0, none⟩) 1 1, 1, [.int .i64 0, .bool false]⟩ :: (ownW (fun m => n.w (m / 4) (m % 4)) v)) (rowsN n.h x) ws1 by
              rw [← ws_put _ (show a * 4 + b < 16 by omega)]
              exact hw_ ▸ ST5.out.setC 1 rfl (a * 4 + b) (.slice (some ⟨n1, 0, none⟩) 1 1) (by rw [ws_size]; omega))
            clear hw_ ST5
            refine ⟨⟨⟨ws1, trivial⟩, rfl⟩, ?_⟩
            refine wpV_q (by simp only [List.getElem?_toArray, List.getElem?_cons_succ, List.getElem?_cons_zero] <;> rfl) (by rfl) (by rfl) ?_
            go_big_quiet_step (fail)
            refine wpQuiet_nil ?_
            refine wpV_e (by simp only [List.getElem?_toArray, List.getElem?_cons_succ, List.getElem?_cons_zero] <;> rfl) (by rfl) ?_
            have zc : ws1.cell? ⟨q10, b * 4 + a, none⟩ = some ((upd v (a * 4 + b) (.slice (some ⟨n1, 0, none⟩) 1 1)) (b * 4 + a)) := ST6.out.cell 1 _ rfl (ws_get _ (by omega))
            have zf : ws1.frozen? ⟨q10, b * 4 + a, none⟩ = false := ST6.out.froz 1 _ rfl
            go_wp2_with fail
            clear zc zf
            obtain ⟨ws2, hw_⟩ : ∃ x, x = ws1.setCell ⟨q10, b * 4 + a, none⟩ (.slice (some ⟨n2, 0, none⟩) 1 1) := ⟨_, rfl⟩
            rw [← hw_]
            have ST7 := Lib.hid (show Sta Wb (fun k => k ≠ q7) dp ds [⟨q12, (⟨cw, ca, cb, chh⟩ : LCh).arr, 40⟩, ⟨q10, wsArr (upd (upd v (a * 4 + b) (.slice (some ⟨n1, 0, none⟩) 1 1)) (b * 4 + a) (.slice (some ⟨n2, 0, none⟩) 1 1)), 38⟩] (⟨45, 2, .slice (some ⟨n2, 0, none⟩) 1 1, 1, [.int .i64 0, .bool false]⟩ :: ⟨45, 2, .slice (some ⟨n1, 0, none⟩) 1 1, 1, [.int .i64 0, .bool false]⟩ :: (ownW (fun m => n.w (m / 4) (m % 4)) v)) (rowsN n.h x) ws2 by
              rw [← ws_put _ (show b * 4 + a < 16 by omega)]
              exact hw_ ▸ ST6.out.setC 1 rfl (b * 4 + a) (.slice (some ⟨n2, 0, none⟩) 1 1) (by rw [ws_size]; omega))
            clear hw_ ST6
            refine ⟨⟨⟨ws2, trivial⟩, rfl⟩, ?_⟩
            refine wpV_done ?_
            clear this
            have ST8 := Lib.hid (show Sta Wb (fun k => k ≠ q7) dp ds [⟨q12, (⟨cw, ca, cb, chh⟩ : LCh).arr, 40⟩, ⟨q10, wsArr (upd (upd v (a * 4 + b) (.slice (some ⟨n1, 0, none⟩) 1 1)) (b * 4 + a) (.slice (some ⟨n2, 0, none⟩) 1 1)), 38⟩] (ownW (fun m => (nBreak n a b).w (m / 4) (m % 4)) (upd (upd v (a * 4 + b) (.slice (some ⟨n1, 0, none⟩) 1 1)) (b * 4 + a) (.slice (some ⟨n2, 0, none⟩) 1 1))) (rowsN n.h x) ws2 from (ST7.out).way2 (l1 := [⟨0, false⟩]) (l2 := [⟨0, false⟩]) rfl rfl rfl rfl ha4 hb4 hb4 ha4)
            clear ST7
            go_upto_block 6 with fail
            have HO := Lib.hid (show HpOut W q7 q10 dp (2 * k) (.slice none 0 0) (.int .i64 a) ws2 from ⟨Wb, nBreak n a b, x, _, ds, [], none, 0, a, rfl, rfl, ha4, HN.out.brk hab, fun i j => by have h1 := nBrk_len (a := a) (b := b) HLN.out i j; show ((nBreak n a b).w i j).length + 0 ≤ _; omega, by decide, (fun o (h : o ∈ ([] : List Ho)) => nomatch h), FB.out, H7.out, ((ST8.out.olds H7.out HPQ.out).2 BW.out), (ST8.out.dropB (List.Sublist.cons _ (List.Sublist.refl _))).nilRow⟩)
            refine wp_tail ?_ (by assumption)
            exact hp_after HK HPW hk4 HO
        · go_wp2_with fail
          obtain ⟨wn2, hw_⟩ : ∃ x, x = wd.alloc (.cells #[.int .i64 0, .bool false] 45) := ⟨_, rfl⟩
          obtain ⟨n2, hob_⟩ : ∃ b, b = wd.heap.size := ⟨_, rfl⟩
          rw [← hw_, ← hob_]
          have ST4 := Lib.hid (show Sta Wb (fun k => k ≠ q7) dp ds [⟨q12, (⟨cw, ca, cb, chh⟩ : LCh).arr, 40⟩, ⟨q10, wsArr v, 38⟩] (⟨45, 2, .slice (some ⟨n2, 0, none⟩) 1 1, 1, [.int .i64 0, .bool false]⟩ :: (ownW (fun m => n.w (m / 4) (m % 4)) v)) (rowsN n.h x) wn2 from hw_ ▸ ST3.out.ownNew ((Fr.refl _ _).alloc _) (xs := [.int .i64 0, .bool false]) (n := 1) (by rw [heap_alloc_if, if_pos hob_]) (Nat.le_of_eq hob_.symm) rfl (by decide))
          clear ST3 hw_ hob_
          refine ⟨⟨⟨wn2, trivial⟩, rfl⟩, ?_⟩
          refine wpV_e (by simp only [List.getElem?_toArray, List.getElem?_cons_succ, List.getElem?_cons_zero] <;> rfl) (by rfl) ?_
          go_wp2_with fail
          obtain ⟨wn1, hw_⟩ : ∃ x, x = wn2.alloc (.cells #[.int .i64 0, .bool false] 45) := ⟨_, rfl⟩
          obtain ⟨n1, hob_⟩ : ∃ b, b = wn2.heap.size := ⟨_, rfl⟩
          rw [← hw_, ← hob_]
          have ST5 := Lib.hid (show Sta Wb (fun k => k ≠ q7) dp ds [⟨q12, (⟨cw, ca, cb, chh⟩ : LCh).arr, 40⟩, ⟨q10, wsArr v, 38⟩] (⟨45, 2, .slice (some ⟨n1, 0, none⟩) 1 1, 1, [.int .i64 0, .bool false]⟩ :: ⟨45, 2, .slice (some ⟨n2, 0, none⟩) 1 1, 1, [.int .i64 0, .bool false]⟩ :: (ownW (fun m => n.w (m / 4) (m % 4)) v)) (rowsN n.h x) wn1 from hw_ ▸ ST4.out.ownNew ((Fr.refl _ _).alloc _) (xs := [.int .i64 0, .bool false]) (n := 1) (by rw [heap_alloc_if, if_pos hob_]) (Nat.le_of_eq hob_.symm) rfl (by decide))
          clear ST4 hw_ hob_
          refine ⟨⟨⟨wn1, trivial⟩, rfl⟩, ?_⟩
          refine wpV_q (by simp only [List.getElem?_toArray, List.getElem?_cons_succ, List.getElem?_cons_zero] <;> rfl) (by rfl) (by rfl) ?_
          go_big_quiet_step (fail)
          refine wpQuiet_nil ?_
          refine wpV_e (by simp only [List.getElem?_toArray, List.getElem?_cons_succ, List.getElem?_cons_zero] <;> rfl) (by rfl) ?_
          have zc : wn1.cell? ⟨q10, a * 4 + b, none⟩ = some (v (a * 4 + b)) := ST5.out.cell 1 _ rfl (ws_get _ (by omega))
          have zf : wn1.frozen? ⟨q10, a * 4 + b, none⟩ = false := ST5.out.froz 1 _ rfl
          go_wp2_with fail
          clear zc zf
          obtain ⟨ws1, hw_⟩ : ∃ x, x = wn1.setCell ⟨q10, a * 4 + b, none⟩ (.slice (some ⟨n1, 0, none⟩) 1 1) := ⟨_, rfl⟩
          rw [← hw_]
          have ST6 := Lib.hid (show Sta Wb (fun k => k ≠ q7) dp ds [⟨q12, (⟨cw, ca, cb, chh⟩ : LCh).arr, 40⟩, ⟨q10, wsArr (upd v (a * 4 + b) (.slice (some ⟨n1, 0, none⟩) 1 1)), 38⟩] (⟨45, 2, .slice (some ⟨n1, 0, none⟩) 1 1, 1, [.int .i64 0, .bool false]⟩ :: ⟨45, 2, .slice (some ⟨n2, 0, none⟩) 1 1, 1, [.int .i64 0, .bool false]⟩ :: (ownW (fun m => n.w (m / 4) (m % 4)) v)) (rowsN n.h x) ws1 by
            rw [← ws_put _ (show a * 4 + b < 16 by omega)]
            exact hw_ ▸ ST5.out.setC 1 rfl (a * 4 + b) (.slice (some ⟨n1, 0, none⟩) 1 1) (by rw [ws_size]; omega))
          clear hw_ ST5
          refine ⟨⟨⟨ws1, trivial⟩, rfl⟩, ?_⟩
          refine wpV_q (by simp only [List.getElem?_toArray, List.getElem?_cons_succ, List.getElem?_cons_zero] <;> rfl) (by rfl) (by rfl) ?_
          go_big_quiet_step (fail)
          refine wpQuiet_nil ?_
          refine wpV_e (by simp only [List.getElem?_toArray, List.getElem?_cons_succ, List.getElem?_cons_zero] <;> rfl) (by rfl) ?_
          have zc : ws1.cell? ⟨q10, b * 4 + a, none⟩ = some ((upd v (a * 4 + b) (.slice (some ⟨n1, 0, none⟩) 1 1)) (b * 4 + a)) := ST6.out.cell 1 _ rfl (ws_get _ (by omega))
          have zf : ws1.frozen? ⟨q10, b * 4 + a, none⟩ = false := ST6.out.froz 1 _ rfl
          go_wp2_with fail
          clear zc zf
          obtain ⟨ws2, hw_⟩ : ∃ x, x = ws1.setCell ⟨q10, b * 4 + a, none⟩ (.slice (some ⟨n2, 0, none⟩) 1 1) := ⟨_, rfl⟩
          rw [← hw_]
          have ST7 := Lib.hid (show Sta Wb (fun k => k ≠ q7) dp ds [⟨q12, (⟨cw, ca, cb, chh⟩ : LCh).arr, 40⟩, ⟨q10, wsArr (upd (upd v (a * 4 + b) (.slice (some ⟨n1, 0, none⟩) 1 1)) (b * 4 + a) (.slice (some ⟨n2, 0, none⟩) 1 1)), 38⟩] (⟨45, 2, .slice (some ⟨n1, 0, none⟩) 1 1, 1, [.int .i64 0, .bool false]⟩ :: ⟨45, 2, .slice (some ⟨n2, 0, none⟩) 1 1, 1, [.int .i64 0, .bool false]⟩ :: (ownW (fun m => n.w (m / 4) (m % 4)) v)) (rowsN n.h x) ws2 by
            rw [← ws_put _ (show b * 4 + a < 16 by omega)]
            exact hw_ ▸ ST6.out.setC 1 rfl (b * 4 + a) (.slice (some ⟨n2, 0, none⟩) 1 1) (by rw [ws_size]; omega))
          clear hw_ ST6
          refine ⟨⟨⟨ws2, trivial⟩, rfl⟩, ?_⟩
          refine wpV_done ?_
          clear this
          have ST8 := Lib.hid (show Sta Wb (fun k => k ≠ q7) dp ds [⟨q12, (⟨cw, ca, cb, chh⟩ : LCh).arr, 40⟩, ⟨q10, wsArr (upd (upd v (a * 4 + b) (.slice (some ⟨n1, 0, none⟩) 1 1)) (b * 4 + a) (.slice (some ⟨n2, 0, none⟩) 1 1)), 38⟩] (ownW (fun m => (nBreak n a b).w (m / 4) (m % 4)) (upd (upd v (a * 4 + b) (.slice (some ⟨n1, 0, none⟩) 1 1)) (b * 4 + a) (.slice (some ⟨n2, 0, none⟩) 1 1))) (rowsN n.h x) ws2 from (ST7.out.permL (List.Perm.swap _ _ _)).way2 (l1 := [⟨0, false⟩]) (l2 := [⟨0, false⟩]) rfl rfl rfl rfl ha4 hb4 hb4 ha4)
          clear ST7
          go_upto_block 6 with fail
          have HO := Lib.hid (show HpOut W q7 q10 dp (2 * k) (.slice none 0 0) (.int .i64 a) ws2 from ⟨Wb, nBreak n a b, x, _, ds, [], none, 0, a, rfl, rfl, ha4, HN.out.brk hab, fun i j => by have h1 := nBrk_len (a := a) (b := b) HLN.out i j; show ((nBreak n a b).w i j).length + 0 ≤ _; omega, by decide, (fun o (h : o ∈ ([] : List Ho)) => nomatch h), FB.out, H7.out, ((ST8.out.olds H7.out HPQ.out).2 BW.out), (ST8.out.dropB (List.Sublist.cons _ (List.Sublist.refl _))).nilRow⟩)
          refine wp_tail ?_ (by assumption)
          exact hp_after HK HPW hk4 HO
      case false =>
        have hm16 : a * 4 + b < 16 := by omega
        obtain ⟨wa, wc, hv, hsw, -, -⟩ := SlA.of_own (ST2.out.ownAt _ (ownW_at n.w v ha4 hb4))
        have yv : w2.cell? ⟨q10, a * 4 + b, none⟩ = some (.slice wa (n.w a b).length wc) := by rw [ST2.out.cell 1 (a * 4 + b) rfl (ws_get v hm16)]; exact congrArg some hv
        have m1 := hsw.le
        have m2 := hsw.max
        by_cases hz : n.w a b = []
        · have hz0 : (n.w a b).length = 0 := by rw [hz]; rfl
          have hz2 : (((n.w a b).length : Int) == 0) = true := by rw [hz0]; rfl
          go_upto_block 6 with fail
          have HO := Lib.hid (show HpOut W q7 q10 dp (2 * k) (.slice none 0 0) (.int .i64 a) w2 from ⟨Wb, n, x, v, ds, [], none, 0, a, rfl, rfl, ha4, HN.out, fun i j => by have h1 := HLN.out i j; show (n.w i j).length + 0 ≤ _; omega, by decide, (fun o (h : o ∈ ([] : List Ho)) => nomatch h), FB.out, H7.out, ((ST2.out.olds H7.out HPQ.out).2 BW.out), (ST2.out.dropB (List.Sublist.cons _ (List.Sublist.refl _))).nilRow⟩)
          refine wp_tail ?_ (by assumption)
          exact hp_after HK HPW hk4 HO
        obtain ⟨y, t, hw⟩ : ∃ y t, n.w a b = y :: t := List.exists_cons_of_ne_nil hz
        have hwl : (n.w a b).length = t.length + 1 := by rw [hw]; rfl
        have hz2 : (((n.w a b).length : Int) == 0) = false := by simp; omega
        have HG := HN.out.got ha4 hb4 hab hw ST2.out.dr.range
        have HPL := Lib.hid (pop_len HLN.out hw)
        have hb9 := HLN.out a b
        rw [hw] at hsw
        obtain ⟨g, o, rfl, hc⟩ := SlA.elem (f := fun y : Lr => [.int .i64 y.kind, .bool y.high]) (n := 2) (l := y :: t) (fun _ => rfl) (by decide) hsw 0 (by simp)
        have c0 : w2.cell? ⟨g, o, none⟩ = some (.int .i64 y.kind) := hc 0 _ rfl
        have c1 : w2.cell? ⟨g, o + 1, none⟩ = some (.bool y.high) := hc 1 _ rfl
        have HW := Lib.hid hw
        have HGI := Lib.hid HG
        obtain ⟨kd, hi⟩ := y
        simp only at c0 c1 HGI
        clear hc hsw hz hw HG
        have HTF := Lib.hid (fun (w' : World) (ho : w'.ownsRow Wb.heap.size 45 2 (v (a * 4 + b)) (n.w a b).length (lrs (n.w a b))) => show SlA w' (some ⟨g, o + 2, none⟩) t.length (wc - 1) (lrs t) from by
          obtain ⟨a2, c2, hv2, hs2, -, -⟩ := SlA.of_own ho
          have hv3 := hv2.symm.trans hv
          injection hv3 with e1 e2 e3
          subst e1 e3
          rw [HW.out] at hs2
          exact hs2.tail2 rfl)
        have HV := Lib.hid hv
        clear hv
        obtain ⟨il, hl1, hl2, hl3⟩ := info_pair Try.zeroLHLetter
        go_upto_region 23 with fail
        go_wp2_with (refine wpList_fresh (vs := #[.int .i64 kd, .bool hi]) hl1 hl2 Try.infoLHLetter2 (by rfl) (by rw [← Array.all_toList]; rfl) (by rfl) (by rfl) ?_)
        intro w3 f3 b3 g3
        obtain ⟨q17, hq17⟩ : ∃ q, q = w2.heap.size := ⟨_, rfl⟩
        rw [← hq17] at b3 g3 ⊢
        have ST3 := Lib.hid (show Sta Wb (fun k => k ≠ q7) dp ds [⟨q17, #[.int .i64 kd, .bool hi], 45⟩, ⟨q12, (⟨cw, ca, cb, chh⟩ : LCh).arr, 40⟩, ⟨q10, wsArr v, 38⟩] (ownW (fun m => n.w (m / 4) (m % 4)) v) (rowsN n.h x) w3 from ST2.out.var f3 b3 (Nat.le_of_eq hq17.symm))
        clear ST2 f3 b3 g3 hq17 c0 c1 yv y0
        go_upto_region 24 with fail
        simp only [Act.put, List.setIfInBounds_toArray, List.set_cons_succ, List.set_cons_zero]
        have HWL := Lib.hid hwl
        rw [hwl] at m1
        clear hwl hz2
        obtain ⟨ad, had1, had2⟩ : ∃ ad : Addr, (if wc = 1 then some (⟨g, o, none⟩ : Addr) else some ⟨g, o + 2, none⟩) = some ad ∧ ∀ w' : World, SlA w' (some ⟨g, o + 2, none⟩) t.length (wc - 1) (lrs t) → ∀ j u, (lrs t)[j]? = some u → w'.cell? (ad.add j) = some u := by
          by_cases h1 : wc = 1
          · refine ⟨⟨g, o, none⟩, by rw [if_pos h1], fun w' _ j u hj => ?_⟩
            have : t = [] := List.eq_nil_of_length_eq_zero (by omega)
            rw [this] at hj
            simp [lrs] at hj
          · exact ⟨⟨g, o + 2, none⟩, by rw [if_neg h1], fun w' h => sla_add h⟩
        have HAD1 := Lib.hid had1
        have HAD2 := Lib.hid had2
        clear had1 had2
        obtain ⟨w4, hwd⟩ : ∃ x, x = w3.drew := ⟨_, rfl⟩
        have HWD := Lib.hid hwd
        have ST4 := Lib.hid (show Sta Wb (fun k => k ≠ q7) dp ds [⟨q17, #[.int .i64 kd, .bool hi], 45⟩, ⟨q12, (⟨cw, ca, cb, chh⟩ : LCh).arr, 40⟩, ⟨q10, wsArr v, 38⟩] (ownW (fun m => n.w (m / 4) (m % 4)) v) (rowsN n.h x) w4 from hwd ▸ ST3.out.gr ((Fr.refl _ _).drew))
        clear ST3 hwd
        haveI : Nonempty (WC (fun w => w.cell? ⟨q10, a * 4 + b, none⟩ = some (.slice (some ⟨g, o, none⟩) (t.length + 1) wc))) := ⟨⟨w4, (by rw [ST4.out.cell 2 (a * 4 + b) rfl (ws_get v hm16), ← HWL.out]; exact congrArg some HV.out)⟩⟩
        have z0 : ∀ z : WC (fun w => w.cell? ⟨q10, a * 4 + b, none⟩ = some (.slice (some ⟨g, o, none⟩) (t.length + 1) wc)), z.val.cell? ⟨q10, a * 4 + b, none⟩ = some (.slice (some ⟨g, o, none⟩) (t.length + 1) wc) := fun z => z.ok
        refine wp_region_lastO 12 [2, 9] [] [0, 1, 2, 3, 4, 5, 6, 7, 8, 9, 10, 11] (fun w' => ∃ z : WC (fun w => w.cell? ⟨q10, a * 4 + b, none⟩ = some (.slice (some ⟨g, o, none⟩) (t.length + 1) wc)), w' = z.val) (by kernel_rfl) (by kernel_rfl) (fun c a w d v h => by cases d <;> exact h) (fun c a w d v h => by cases d <;> exact h) (by rw [← HWD.out]; exact ⟨⟨w4, (by rw [ST4.out.cell 2 (a * 4 + b) rfl (ws_get v hm16), ← HWL.out]; exact congrArg some HV.out)⟩, rfl⟩) ?_
        rw [← HWD.out]
        clear HWD
        simp only [List.take]
        refine wpT_q (by simp only [List.getElem?_toArray, List.getElem?_cons_zero] <;> rfl) (by rfl) (by rfl) ?_
        go_big_quiet_step (fail)
        refine wpQuiet_nil ?_
        refine wpT_q (by simp only [List.getElem?_toArray, List.getElem?_cons_succ, List.getElem?_cons_zero] <;> rfl) (by rfl) (by rfl) ?_
        go_big_quiet_step (fail)
        refine wpQuiet_nil ?_
        refine wpT_e (by simp only [List.getElem?_toArray, List.getElem?_cons_succ, List.getElem?_cons_zero] <;> rfl) (by rfl) ?_
        go_wp2_with fail
        obtain ⟨w5, hw_⟩ : ∃ x, x = w4.alloc (.cells #[] 45) := ⟨_, rfl⟩
        obtain ⟨nb, hob_⟩ : ∃ b, b = w4.heap.size := ⟨_, rfl⟩
        rw [← hw_, ← hob_]
        have ST5 := Lib.hid (show Sta Wb (fun k => k ≠ q7) dp ds [⟨q17, #[.int .i64 kd, .bool hi], 45⟩, ⟨q12, (⟨cw, ca, cb, chh⟩ : LCh).arr, 40⟩, ⟨q10, wsArr v, 38⟩] (⟨45, 2, .slice (some ⟨nb, 0, none⟩) 0 0, 0, []⟩ :: (ownW (fun m => n.w (m / 4) (m % 4)) v)) (rowsN n.h x) w5 from hw_ ▸ ST4.out.ownNew ((Fr.refl _ _).alloc _) (xs := []) (n := 0) (by rw [heap_alloc_if, if_pos hob_]) (Nat.le_of_eq hob_.symm) rfl (by decide))
        clear ST4 hw_ hob_
        refine ⟨⟨⟨w5, (by rw [ST5.out.cell 2 (a * 4 + b) rfl (ws_get v hm16), ← HWL.out]; exact congrArg some HV.out)⟩, rfl⟩, ?_⟩
        refine wpT_q (by simp only [List.getElem?_toArray, List.getElem?_cons_succ, List.getElem?_cons_zero] <;> rfl) (by rfl) (by rfl) ?_
        go_big_quiet_step (fail)
        refine wpQuiet_nil ?_
        refine wpT_q (by simp only [List.getElem?_toArray, List.getElem?_cons_succ, List.getElem?_cons_zero] <;> rfl) (by rfl) (by rfl) ?_
        go_big_quiet_step (fail)
        refine wpQuiet_nil ?_
        refine wpT_q (by simp only [List.getElem?_toArray, List.getElem?_cons_succ, List.getElem?_cons_zero] <;> rfl) (by rfl) (by rfl) ?_
        go_big_quiet_step (fail)
        refine wpQuiet_nil ?_
        refine wpT_q (by simp only [List.getElem?_toArray, List.getElem?_cons_succ, List.getElem?_cons_zero] <;> rfl) (by rfl) (by rfl) ?_
        go_big_quiet_step (fail)
        refine wpQuiet_nil ?_
        refine wpT_q (by simp only [List.getElem?_toArray, List.getElem?_cons_succ, List.getElem?_cons_zero] <;> rfl) (by rfl) (by rfl) ?_
        go_big_quiet_step (fail)
        refine wpQuiet_nil ?_
        refine wpT_q (by simp only [List.getElem?_toArray, List.getElem?_cons_succ, List.getElem?_cons_zero] <;> rfl) (by rfl) (by rfl) ?_
        go_big_quiet_step (fail)
        refine wpQuiet_nil ?_
        refine wpT_e (by simp only [List.getElem?_toArray, List.getElem?_cons_succ, List.getElem?_cons_zero] <;> rfl) (by rfl) ?_
        refine wpList_growT (by rfl) _ _ 36 45 2 16 (.agg #[.int .i64 0, .bool false]) Try.underlying36 Try.infoLHLetter rfl (by decide) (by decide) (by rfl) ST5.out 0 rfl (ad := ad) (m := t.length) (c := wc - 1) (by rw [← HAD1.out]; rfl) (lrs_len t) (HAD2.out _ (HTF.out _ (ST5.out.ownAt (a * 4 + b + 1) (by rw [List.getElem?_cons_succ]; exact ownW_at n.w v ha4 hb4)))) (by rfl) (lrs_one t) (by have h1 := HLN.out a b; have h2 := HWL.out; omega) ?_
        intro v7 w6 hst
        refine wpList_nil ?_
        have ST6 := Lib.hid (show Sta Wb (fun k => k ≠ q7) dp ds [⟨q17, #[.int .i64 kd, .bool hi], 45⟩, ⟨q12, (⟨cw, ca, cb, chh⟩ : LCh).arr, 40⟩, ⟨q10, wsArr v, 38⟩] (⟨45, 2, v7, t.length, lrs t⟩ :: (ownW (fun m => n.w (m / 4) (m % 4)) v)) (rowsN n.h x) w6 by rw [List.set_cons_zero, Nat.zero_add, List.nil_append] at hst; exact hst)
        clear hst ST5
        refine ⟨⟨⟨w6, (by rw [ST6.out.cell 2 (a * 4 + b) rfl (ws_get v hm16), ← HWL.out]; exact congrArg some HV.out)⟩, rfl⟩, ?_⟩
        simp only [Act.put, List.setIfInBounds_toArray, List.set_cons_succ, List.set_cons_zero]
        rw [HAD1.out]
        refine wpT_q (by simp only [List.getElem?_toArray, List.getElem?_cons_succ, List.getElem?_cons_zero] <;> rfl) (by rfl) (by rfl) ?_
        go_big_quiet_step (fail)
        refine wpQuiet_nil ?_
        refine wpT_q (by simp only [List.getElem?_toArray, List.getElem?_cons_succ, List.getElem?_cons_zero] <;> rfl) (by rfl) (by rfl) ?_
        go_big_quiet_step (fail)
        refine wpQuiet_nil ?_
        clear this z0
        refine wpT_nil ?_
        simp only [lastQ, List.drop]
        obtain ⟨a7, c7, hv7, -, -, -⟩ := SlA.of_own (ST6.out.ownAt 0 rfl)
        subst hv7
        have zc : w6.cell? ⟨q10, a * 4 + b, none⟩ = some (v (a * 4 + b)) := ST6.out.cell 2 _ rfl (ws_get _ (by omega))
        have zf : w6.frozen? ⟨q10, a * 4 + b, none⟩ = false := ST6.out.froz 2 _ rfl
        go_upto_region 26 with fail
        clear zc zf
        obtain ⟨w7, hw_⟩ : ∃ x, x = w6.setCell ⟨q10, a * 4 + b, none⟩ (.slice a7 t.length c7) := ⟨_, rfl⟩
        rw [← hw_]
        have ST7 := Lib.hid (show Sta Wb (fun k => k ≠ q7) dp ds [⟨q17, #[.int .i64 kd, .bool hi], 45⟩, ⟨q12, (⟨cw, ca, cb, chh⟩ : LCh).arr, 40⟩, ⟨q10, wsArr (upd v (a * 4 + b) (.slice a7 t.length c7)), 38⟩] (⟨45, 2, .slice a7 t.length c7, t.length, lrs t⟩ :: (ownW (fun m => n.w (m / 4) (m % 4)) v)) (rowsN n.h x) w7 by
          rw [← ws_put _ (show a * 4 + b < 16 by omega)]
          exact hw_ ▸ ST6.out.setC 2 rfl (a * 4 + b) (.slice a7 t.length c7) (by rw [ws_size]; omega))
        clear hw_ ST6
        have ST8 := Lib.hid (show Sta Wb (fun k => k ≠ q7) dp ds [⟨q17, #[.int .i64 kd, .bool hi], 45⟩, ⟨q12, (⟨cw, ca, cb, chh⟩ : LCh).arr, 40⟩, ⟨q10, wsArr (upd v (a * 4 + b) (.slice a7 t.length c7)), 38⟩] (ownW (fun m => upd2 n.w a b t (m / 4) (m % 4)) (upd v (a * 4 + b) (.slice a7 t.length c7))) (rowsN n.h x) w7 from ST7.out.way (l := t) rfl rfl ha4 hb4)
        clear HTF HV HWL HAD1 HAD2 ST7
        obtain ⟨v2, hv2⟩ : ∃ v2, v2 = upd v (a * 4 + b) (.slice a7 t.length c7) := ⟨_, rfl⟩
        rw [← hv2] at ST8
        clear hv2 hm16 m1 m2
        have c0 : w7.cell? ⟨q17, 0, none⟩ = some (.int .i64 kd) := ST8.out.cell 0 0 rfl rfl
        cases e3 : (kd == 3)
        case false =>
          cases e4 : (kd == 4)
          case false =>
            cases e5 : (kd == 5)
            case false =>
              cases e66 : (kd == 6)
              case false =>
                have n3 : ¬ kd = 3 := by simpa using e3
                have n4 : ¬ kd = 4 := by simpa using e4
                have n5 : ¬ kd = 5 := by simpa using e5
                have n6 : ¬ kd = 6 := by simpa using e66
                have eF : hOn (n.h b) ((a : Int) + 1) ⟨kd, hi⟩ ds = (hOnBreak (n.h b) ((a : Int) + 1), [], ds) := by unfold hOn; simp only; rw [if_neg n3]; rw [if_neg n4]; rw [if_neg n5]; rw [if_neg n6]
                have CP := Lib.hid (fun O w (h1 : Sta w O dp ds [] [] (hrows (n.h b) (x b) []) w) => handOnBreak_any (n.h b) (x b) ((a : Int) + 1) dp ds O w h1 (HN.out.hi b hb4).good)
                obtain ⟨h', e9⟩ : ∃ c, hOnBreak (n.h b) ((a : Int) + 1) = c := ⟨_, rfl⟩
                rw [eF, e9] at HGI
                rw [e9] at CP
                unfold nGot at HGI
                simp only at HGI CP
                clear eF e9 n3 n4 n5 n6
                go_upto_region 27 with fail
                refine wp_region_lit ?_
                go_wp2_with (refine wpList_load_mid (by rfl) 31 _ (by rfl) q7 (b * 7) (by rfl) (Array.toList ((n.h b).arr (x b))) _ (rangeIn ((ST8.out.olds H7.out HPQ.out).2 BW.out) (b * 7) (hs_get n.h x hb4)) Try.underlying31 rfl Try.infoHand ?_)
                refine (CP.out _ _ (ST8.out.enter (hrows (n.h b) (x b) []) (rowsN_in n.h x hb4))).mono ?_
                intro e wc hst
                obtain ⟨x', rfl, hst2, -⟩ := hst
                have ST9 := Lib.hid (show Sta Wb (fun k => k ≠ q7) dp ds [⟨q17, #[.int .i64 kd, .bool hi], 45⟩, ⟨q12, (⟨cw, ca, cb, chh⟩ : LCh).arr, 40⟩, ⟨q10, wsArr v2, 38⟩] (ownW (fun m => upd2 n.w a b t (m / 4) (m % 4)) v2) (hrows h' x' (rowsN n.h x)) wc from ST8.out.leave (rowsN_in n.h x hb4) hst2)
                clear hst2 CP ST8
                go_upto_block 6 with (refine wpList_store_mid (by rfl) 31 _ _ (by rfl) q7 (b * 7) (h'.arr x') (by rfl) (by rfl) (hs_there ((ST9.out.olds H7.out HPQ.out).2 BW.out) hb4) Try.infoHand (by rw [← Array.all_toList]; rfl) ?_; obtain ⟨W2, g2, l2, b2, st2⟩ := ST9.out.putHand ((ST9.out.olds H7.out HPQ.out).2 BW.out) H7.out HPQ.out FB.out HWQ.out hb4 h' x' (R2 := rowsN (upd n.h b h') (upd x b x')) (rowsN_of n.h x hb4 h' x'); obtain ⟨we, hw_⟩ : ∃ x, x = wc.setCells q7 (b * 7) (h'.arr x').toList := ⟨_, rfl⟩; rw [← hw_] at st2 b2 ⊢; have ST10 := Lib.hid (show Sta W2 (fun k => k ≠ q7) dp ds [⟨q17, #[.int .i64 kd, .bool hi], 45⟩, ⟨q12, (⟨cw, ca, cb, chh⟩ : LCh).arr, 40⟩, ⟨q10, wsArr v2, 38⟩] (ownW (fun m => upd2 n.w a b t (m / 4) (m % 4)) v2) (rowsN (upd n.h b h') (upd x b x')) we from st2); have G2 := Lib.hid g2; have L2 := Lib.hid l2; have B2 := Lib.hid b2; clear hw_ st2 g2 l2 b2 ST9)
                have HO := Lib.hid (show HpOut W q7 q10 dp (2 * k) (.slice none 0 0) (.int .i64 b) we from ⟨W2, ⟨upd n.h b h', upd2 n.w a b t⟩, upd x b x', v2, ds, [], none, 0, b, rfl, rfl, hb4, HGI.out.1, fun i j => by have h1 := HPL.out i j; show (upd2 n.w a b t i j).length + 0 ≤ _; omega, by decide, (fun o (h : o ∈ ([] : List Ho)) => nomatch h), G2.out, L2.out, B2.out, (ST10.out.dropB (List.Sublist.cons _ (List.Sublist.cons _ (List.Sublist.refl _)))).nilRow⟩)
                refine wp_tail ?_ (by assumption)
                exact hp_after HK HPW hk4 HO
              case true =>
                have n3 : ¬ kd = 3 := by simpa using e3
                have n4 : ¬ kd = 4 := by simpa using e4
                have n5 : ¬ kd = 5 := by simpa using e5
                have n6 : kd = 6 := by simpa using e66
                have eF : hOn (n.h b) ((a : Int) + 1) ⟨kd, hi⟩ ds = ((hOnBye (n.h b) ((a : Int) + 1) ds).1, [], (hOnBye (n.h b) ((a : Int) + 1) ds).2) := by unfold hOn; simp only; rw [if_neg n3]; rw [if_neg n4]; rw [if_neg n5]; rw [if_pos n6]
                have CP := Lib.hid (fun O w (h1 : Sta w O dp ds [] [] (hrows (n.h b) (x b) []) w) => handOnBye_any (n.h b) (x b) ((a : Int) + 1) dp ds O w h1 (HN.out.hi b hb4).good)
                obtain ⟨h', d', e9⟩ : ∃ c d, hOnBye (n.h b) ((a : Int) + 1) ds = (c, d) := ⟨_, _, rfl⟩
                rw [eF, e9] at HGI
                rw [e9] at CP
                unfold nGot at HGI
                simp only at HGI CP
                clear eF e9 n3 n4 n5 n6
                go_upto_region 35 with fail
                refine wp_region_lit ?_
                go_wp2_with (refine wpList_load_mid (by rfl) 31 _ (by rfl) q7 (b * 7) (by rfl) (Array.toList ((n.h b).arr (x b))) _ (rangeIn ((ST8.out.olds H7.out HPQ.out).2 BW.out) (b * 7) (hs_get n.h x hb4)) Try.underlying31 rfl Try.infoHand ?_)
                refine (CP.out _ _ (ST8.out.enter (hrows (n.h b) (x b) []) (rowsN_in n.h x hb4))).mono ?_
                intro e wc hst
                obtain ⟨x', rfl, hst2, -⟩ := hst
                have ST9 := Lib.hid (show Sta Wb (fun k => k ≠ q7) dp d' [⟨q17, #[.int .i64 kd, .bool hi], 45⟩, ⟨q12, (⟨cw, ca, cb, chh⟩ : LCh).arr, 40⟩, ⟨q10, wsArr v2, 38⟩] (ownW (fun m => upd2 n.w a b t (m / 4) (m % 4)) v2) (hrows h' x' (rowsN n.h x)) wc from ST8.out.leave (rowsN_in n.h x hb4) hst2)
                clear hst2 CP ST8
                go_upto_block 6 with (refine wpList_store_mid (by rfl) 31 _ _ (by rfl) q7 (b * 7) (h'.arr x') (by rfl) (by rfl) (hs_there ((ST9.out.olds H7.out HPQ.out).2 BW.out) hb4) Try.infoHand (by rw [← Array.all_toList]; rfl) ?_; obtain ⟨W2, g2, l2, b2, st2⟩ := ST9.out.putHand ((ST9.out.olds H7.out HPQ.out).2 BW.out) H7.out HPQ.out FB.out HWQ.out hb4 h' x' (R2 := rowsN (upd n.h b h') (upd x b x')) (rowsN_of n.h x hb4 h' x'); obtain ⟨we, hw_⟩ : ∃ x, x = wc.setCells q7 (b * 7) (h'.arr x').toList := ⟨_, rfl⟩; rw [← hw_] at st2 b2 ⊢; have ST10 := Lib.hid (show Sta W2 (fun k => k ≠ q7) dp d' [⟨q17, #[.int .i64 kd, .bool hi], 45⟩, ⟨q12, (⟨cw, ca, cb, chh⟩ : LCh).arr, 40⟩, ⟨q10, wsArr v2, 38⟩] (ownW (fun m => upd2 n.w a b t (m / 4) (m % 4)) v2) (rowsN (upd n.h b h') (upd x b x')) we from st2); have G2 := Lib.hid g2; have L2 := Lib.hid l2; have B2 := Lib.hid b2; clear hw_ st2 g2 l2 b2 ST9)
                have HO := Lib.hid (show HpOut W q7 q10 dp (2 * k) (.slice none 0 0) (.int .i64 b) we from ⟨W2, ⟨upd n.h b h', upd2 n.w a b t⟩, upd x b x', v2, d', [], none, 0, b, rfl, rfl, hb4, HGI.out.1, fun i j => by have h1 := HPL.out i j; show (upd2 n.w a b t i j).length + 0 ≤ _; omega, by decide, (fun o (h : o ∈ ([] : List Ho)) => nomatch h), G2.out, L2.out, B2.out, (ST10.out.dropB (List.Sublist.cons _ (List.Sublist.cons _ (List.Sublist.refl _)))).nilRow⟩)
                refine wp_tail ?_ (by assumption)
                exact hp_after HK HPW hk4 HO
            case true =>
              have n3 : ¬ kd = 3 := by simpa using e3
              have n4 : ¬ kd = 4 := by simpa using e4
              have n5 : kd = 5 := by simpa using e5
              have eF : hOn (n.h b) ((a : Int) + 1) ⟨kd, hi⟩ ds = hOnNo (n.h b) ((a : Int) + 1) ds := by unfold hOn; simp only; rw [if_neg n3]; rw [if_neg n4]; rw [if_pos n5]
              have CP := Lib.hid (fun O w (h1 : Sta w O dp ds [] [] (hrows (n.h b) (x b) []) w) => handOnNo_any (n.h b) (x b) ((a : Int) + 1) dp ds O w h1 (HN.out.hi b hb4).good)
              obtain ⟨h', o', d', e9⟩ : ∃ c d e, hOnNo (n.h b) ((a : Int) + 1) ds = (c, d, e) := ⟨_, _, _, rfl⟩
              rw [eF, e9] at HGI
              rw [e9] at CP
              unfold nGot at HGI
              simp only at HGI CP
              clear eF e9 n3 n4 n5
              go_upto_region 33 with fail
              refine wp_region_lit ?_
              go_wp2_with (refine wpList_load_mid (by rfl) 31 _ (by rfl) q7 (b * 7) (by rfl) (Array.toList ((n.h b).arr (x b))) _ (rangeIn ((ST8.out.olds H7.out HPQ.out).2 BW.out) (b * 7) (hs_get n.h x hb4)) Try.underlying31 rfl Try.infoHand ?_)
              refine (CP.out _ _ (ST8.out.enter (hrows (n.h b) (x b) []) (rowsN_in n.h x hb4))).mono ?_
              intro e wc hst
              obtain ⟨x', ov, rfl, hst2, -⟩ := hst
              obtain ⟨ra, rc, rfl, hst3⟩ := (ST8.out.leave (rowsN_in n.h x hb4) hst2).asRow 0 rfl
              have ST9 := Lib.hid (show Sta Wb (fun k => k ≠ q7) dp d' [⟨q17, #[.int .i64 kd, .bool hi], 45⟩, ⟨q12, (⟨cw, ca, cb, chh⟩ : LCh).arr, 40⟩, ⟨q10, wsArr v2, 38⟩] (ownW (fun m => upd2 n.w a b t (m / 4) (m % 4)) v2) (⟨ra, o'.length, rc, houts o'⟩ :: hrows h' x' (rowsN n.h x)) wc from hst3)
              clear hst2 hst3 CP ST8
              go_upto_block 6 with (refine wpList_store_mid (by rfl) 31 _ _ (by rfl) q7 (b * 7) (h'.arr x') (by rfl) (by rfl) (hs_there ((ST9.out.olds H7.out HPQ.out).2 BW.out) hb4) Try.infoHand (by rw [← Array.all_toList]; rfl) ?_; obtain ⟨W2, g2, l2, b2, st2⟩ := ST9.out.putHand ((ST9.out.olds H7.out HPQ.out).2 BW.out) H7.out HPQ.out FB.out HWQ.out hb4 h' x' (R2 := ⟨ra, o'.length, rc, houts o'⟩ :: rowsN (upd n.h b h') (upd x b x')) (inC (List.mem_cons_self ..) (fun r hr => List.mem_cons_of_mem _ (rowsN_of n.h x hb4 h' x' r hr))); obtain ⟨we, hw_⟩ : ∃ x, x = wc.setCells q7 (b * 7) (h'.arr x').toList := ⟨_, rfl⟩; rw [← hw_] at st2 b2 ⊢; have ST10 := Lib.hid (show Sta W2 (fun k => k ≠ q7) dp d' [⟨q17, #[.int .i64 kd, .bool hi], 45⟩, ⟨q12, (⟨cw, ca, cb, chh⟩ : LCh).arr, 40⟩, ⟨q10, wsArr v2, 38⟩] (ownW (fun m => upd2 n.w a b t (m / 4) (m % 4)) v2) (⟨ra, o'.length, rc, houts o'⟩ :: rowsN (upd n.h b h') (upd x b x')) we from st2); have G2 := Lib.hid g2; have L2 := Lib.hid l2; have B2 := Lib.hid b2; clear hw_ st2 g2 l2 b2 ST9)
              have HO := Lib.hid (show HpOut W q7 q10 dp (2 * k) (.slice ra o'.length rc) (.int .i64 b) we from ⟨W2, ⟨upd n.h b h', upd2 n.w a b t⟩, upd x b x', v2, d', o', ra, rc, b, rfl, rfl, hb4, HGI.out.1, fun i j => by have h1 := HPL.out i j; have h2 := HGI.out.2.1; show (upd2 n.w a b t i j).length + o'.length ≤ _; omega, HGI.out.2.1, HGI.out.2.2, G2.out, L2.out, B2.out, ST10.out.dropB (List.Sublist.cons _ (List.Sublist.cons _ (List.Sublist.refl _)))⟩)
              refine wp_tail ?_ (by assumption)
              exact hp_after HK HPW hk4 HO
          case true =>
            have n3 : ¬ kd = 3 := by simpa using e3
            have n4 : kd = 4 := by simpa using e4
            have eF : hOn (n.h b) ((a : Int) + 1) ⟨kd, hi⟩ ds = hOnYes (n.h b) ((a : Int) + 1) ds := by unfold hOn; simp only; rw [if_neg n3]; rw [if_pos n4]
            have CP := Lib.hid (fun O w (h1 : Sta w O dp ds [] [] (hrows (n.h b) (x b) []) w) => handOnYes_any (n.h b) (x b) ((a : Int) + 1) dp ds O w h1 (HN.out.hi b hb4).good)
            obtain ⟨h', o', d', e9⟩ : ∃ c d e, hOnYes (n.h b) ((a : Int) + 1) ds = (c, d, e) := ⟨_, _, _, rfl⟩
            rw [eF, e9] at HGI
            rw [e9] at CP
            unfold nGot at HGI
            simp only at HGI CP
            clear eF e9 n3 n4
            go_upto_region 31 with fail
            refine wp_region_lit ?_
            go_wp2_with (refine wpList_load_mid (by rfl) 31 _ (by rfl) q7 (b * 7) (by rfl) (Array.toList ((n.h b).arr (x b))) _ (rangeIn ((ST8.out.olds H7.out HPQ.out).2 BW.out) (b * 7) (hs_get n.h x hb4)) Try.underlying31 rfl Try.infoHand ?_)
            refine (CP.out _ _ (ST8.out.enter (hrows (n.h b) (x b) []) (rowsN_in n.h x hb4))).mono ?_
            intro e wc hst
            obtain ⟨x', ov, rfl, hst2, -⟩ := hst
            obtain ⟨ra, rc, rfl, hst3⟩ := (ST8.out.leave (rowsN_in n.h x hb4) hst2).asRow 0 rfl
            have ST9 := Lib.hid (show Sta Wb (fun k => k ≠ q7) dp d' [⟨q17, #[.int .i64 kd, .bool hi], 45⟩, ⟨q12, (⟨cw, ca, cb, chh⟩ : LCh).arr, 40⟩, ⟨q10, wsArr v2, 38⟩] (ownW (fun m => upd2 n.w a b t (m / 4) (m % 4)) v2) (⟨ra, o'.length, rc, houts o'⟩ :: hrows h' x' (rowsN n.h x)) wc from hst3)
            clear hst2 hst3 CP ST8
            go_upto_block 6 with (refine wpList_store_mid (by rfl) 31 _ _ (by rfl) q7 (b * 7) (h'.arr x') (by rfl) (by rfl) (hs_there ((ST9.out.olds H7.out HPQ.out).2 BW.out) hb4) Try.infoHand (by rw [← Array.all_toList]; rfl) ?_; obtain ⟨W2, g2, l2, b2, st2⟩ := ST9.out.putHand ((ST9.out.olds H7.out HPQ.out).2 BW.out) H7.out HPQ.out FB.out HWQ.out hb4 h' x' (R2 := ⟨ra, o'.length, rc, houts o'⟩ :: rowsN (upd n.h b h') (upd x b x')) (inC (List.mem_cons_self ..) (fun r hr => List.mem_cons_of_mem _ (rowsN_of n.h x hb4 h' x' r hr))); obtain ⟨we, hw_⟩ : ∃ x, x = wc.setCells q7 (b * 7) (h'.arr x').toList := ⟨_, rfl⟩; rw [← hw_] at st2 b2 ⊢; have ST10 := Lib.hid (show Sta W2 (fun k => k ≠ q7) dp d' [⟨q17, #[.int .i64 kd, .bool hi], 45⟩, ⟨q12, (⟨cw, ca, cb, chh⟩ : LCh).arr, 40⟩, ⟨q10, wsArr v2, 38⟩] (ownW (fun m => upd2 n.w a b t (m / 4) (m % 4)) v2) (⟨ra, o'.length, rc, houts o'⟩ :: rowsN (upd n.h b h') (upd x b x')) we from st2); have G2 := Lib.hid g2; have L2 := Lib.hid l2; have B2 := Lib.hid b2; clear hw_ st2 g2 l2 b2 ST9)
            have HO := Lib.hid (show HpOut W q7 q10 dp (2 * k) (.slice ra o'.length rc) (.int .i64 b) we from ⟨W2, ⟨upd n.h b h', upd2 n.w a b t⟩, upd x b x', v2, d', o', ra, rc, b, rfl, rfl, hb4, HGI.out.1, fun i j => by have h1 := HPL.out i j; have h2 := HGI.out.2.1; show (upd2 n.w a b t i j).length + o'.length ≤ _; omega, HGI.out.2.1, HGI.out.2.2, G2.out, L2.out, B2.out, ST10.out.dropB (List.Sublist.cons _ (List.Sublist.cons _ (List.Sublist.refl _)))⟩)
            refine wp_tail ?_ (by assumption)
            exact hp_after HK HPW hk4 HO
        case true =>
          have n3 : kd = 3 := by simpa using e3
          have eF : hOn (n.h b) ((a : Int) + 1) ⟨kd, hi⟩ ds = hOnAsk (n.h b) ((a : Int) + 1) hi ds := by unfold hOn; simp only; rw [if_pos n3]
          have CP := Lib.hid (fun O w (h1 : Sta w O dp ds [] [] (hrows (n.h b) (x b) []) w) => handOnAsk_any (n.h b) (x b) ((a : Int) + 1) hi dp ds O w h1 (HN.out.hi b hb4).good)
          obtain ⟨h', o', d', e9⟩ : ∃ c d e, hOnAsk (n.h b) ((a : Int) + 1) hi ds = (c, d, e) := ⟨_, _, _, rfl⟩
          rw [eF, e9] at HGI
          rw [e9] at CP
          unfold nGot at HGI
          simp only at HGI CP
          clear eF e9  n3
          go_upto_region 29 with fail
          obtain ⟨wd, hwd⟩ : ∃ x, x = w7.drew := ⟨_, rfl⟩
          have HWD := Lib.hid hwd
          have ST9 := Lib.hid (show Sta Wb (fun k => k ≠ q7) dp ds [⟨q17, #[.int .i64 kd, .bool hi], 45⟩, ⟨q12, (⟨cw, ca, cb, chh⟩ : LCh).arr, 40⟩, ⟨q10, wsArr v2, 38⟩] (ownW (fun m => upd2 n.w a b t (m / 4) (m % 4)) v2) (rowsN n.h x) wd from hwd ▸ ST8.out.gr ((Fr.refl _ _).drew))
          clear ST8 hwd
          haveI : Nonempty (WC (fun w => w.cell? ⟨q17, 1, none⟩ = some (.bool hi))) := ⟨⟨wd, (ST9.out.cell 0 1 rfl rfl)⟩⟩
          have zc : ∀ z : WC (fun w => w.cell? ⟨q17, 1, none⟩ = some (.bool hi)), z.val.cell? ⟨q17, 1, none⟩ = some (.bool hi) := fun z => z.ok
          refine wp_region_plan [3, 9, 14, 15] (Plan.seq [0, 1, 2, 3, 4, 5, 6, 7, 8, 9, 10, 11, 12, 13, 14, 15] .done) (fun w' => ∃ z : WC (fun w => w.cell? ⟨q17, 1, none⟩ = some (.bool hi)), w' = z.val) (by kernel_rfl) (by kernel_rfl) (fun c a w d v h => by cases d <;> exact h) (fun c a w d v h => by cases d <;> exact h) (by rw [← HWD.out]; exact ⟨⟨wd, (ST9.out.cell 0 1 rfl rfl)⟩, rfl⟩) ?_
          rw [← HWD.out]
          clear HWD
          refine wpV_q (by simp only [List.getElem?_toArray, List.getElem?_cons_zero] <;> rfl) (by rfl) (by rfl) ?_
          go_big_quiet_step (fail)
          refine wpQuiet_nil ?_
          refine wpV_q (by simp only [List.getElem?_toArray, List.getElem?_cons_succ, List.getElem?_cons_zero] <;> rfl) (by rfl) (by rfl) ?_
          go_big_quiet_step (fail)
          refine wpQuiet_nil ?_
          refine wpV_q (by simp only [List.getElem?_toArray, List.getElem?_cons_succ, List.getElem?_cons_zero] <;> rfl) (by rfl) (by rfl) ?_
          go_big_quiet_step (fail)
          refine wpQuiet_nil ?_
          refine wpV_e (by simp only [List.getElem?_toArray, List.getElem?_cons_succ, List.getElem?_cons_zero] <;> rfl) (by rfl) ?_
          refine wpList_load_mid (by rfl) 31 _ (by rfl) q7 (b * 7) (by rfl) (Array.toList ((n.h b).arr (x b))) _ (rangeIn ((ST9.out.olds H7.out HPQ.out).2 BW.out) (b * 7) (hs_get n.h x hb4)) Try.underlying31 rfl Try.infoHand ?_
          refine wpList_nil ?_
          refine ⟨⟨⟨wd, (ST9.out.cell 0 1 rfl rfl)⟩, rfl⟩, ?_⟩
          simp only [Act.put, List.setIfInBounds_toArray, List.set_cons_succ, List.set_cons_zero]
          refine wpV_q (by simp only [List.getElem?_toArray, List.getElem?_cons_succ, List.getElem?_cons_zero] <;> rfl) (by rfl) (by rfl) ?_
          go_big_quiet_step (fail)
          refine wpQuiet_nil ?_
          refine wpV_q (by simp only [List.getElem?_toArray, List.getElem?_cons_succ, List.getElem?_cons_zero] <;> rfl) (by rfl) (by rfl) ?_
          go_big_quiet_step (fail)
          refine wpQuiet_nil ?_
          refine wpV_q (by simp only [List.getElem?_toArray, List.getElem?_cons_succ, List.getElem?_cons_zero] <;> rfl) (by rfl) (by rfl) ?_
          go_big_quiet_step (fail)
          refine wpQuiet_nil ?_
          refine wpV_q (by simp only [List.getElem?_toArray, List.getElem?_cons_succ, List.getElem?_cons_zero] <;> rfl) (by rfl) (by rfl) ?_
          go_big_quiet_step (fail)
          refine wpQuiet_nil ?_
          refine wpV_q (by simp only [List.getElem?_toArray, List.getElem?_cons_succ, List.getElem?_cons_zero] <;> rfl) (by rfl) (by rfl) ?_
          go_big_quiet_step (fail)
          refine wpQuiet_nil ?_
          refine wpV_e (by simp only [List.getElem?_toArray, List.getElem?_cons_succ, List.getElem?_cons_zero] <;> rfl) (by rfl) ?_
          go_wp2_with fail
          refine (CP.out _ _ (ST9.out.enter (hrows (n.h b) (x b) []) (rowsN_in n.h x hb4))).mono ?_
          intro e wc hst
          obtain ⟨x', ov, rfl, hst2, -⟩ := hst
          obtain ⟨ra, rc, rfl, hst3⟩ := (ST9.out.leave (rowsN_in n.h x hb4) hst2).asRow 0 rfl
          have ST10 := Lib.hid (show Sta Wb (fun k => k ≠ q7) dp d' [⟨q17, #[.int .i64 kd, .bool hi], 45⟩, ⟨q12, (⟨cw, ca, cb, chh⟩ : LCh).arr, 40⟩, ⟨q10, wsArr v2, 38⟩] (ownW (fun m => upd2 n.w a b t (m / 4) (m % 4)) v2) (⟨ra, o'.length, rc, houts o'⟩ :: hrows h' x' (rowsN n.h x)) wc from hst3)
          clear hst2 hst3 CP ST9
          go_wp2_with fail
          refine ⟨⟨⟨wc, (ST10.out.cell 0 1 rfl rfl)⟩, rfl⟩, ?_⟩
          refine wpV_q (by simp only [List.getElem?_toArray, List.getElem?_cons_succ, List.getElem?_cons_zero] <;> rfl) (by rfl) (by rfl) ?_
          go_big_quiet_step (fail)
          refine wpQuiet_nil ?_
          refine wpV_q (by simp only [List.getElem?_toArray, List.getElem?_cons_succ, List.getElem?_cons_zero] <;> rfl) (by rfl) (by rfl) ?_
          go_big_quiet_step (fail)
          refine wpQuiet_nil ?_
          refine wpV_q (by simp only [List.getElem?_toArray, List.getElem?_cons_succ, List.getElem?_cons_zero] <;> rfl) (by rfl) (by rfl) ?_
          go_big_quiet_step (fail)
          refine wpQuiet_nil ?_
          refine wpV_q (by simp only [List.getElem?_toArray, List.getElem?_cons_succ, List.getElem?_cons_zero] <;> rfl) (by rfl) (by rfl) ?_
          go_big_quiet_step (fail)
          refine wpQuiet_nil ?_
          refine wpV_e (by simp only [List.getElem?_toArray, List.getElem?_cons_succ, List.getElem?_cons_zero] <;> rfl) (by rfl) ?_
          refine wpList_store_mid (by rfl) 31 _ _ (by rfl) q7 (b * 7) (h'.arr x') (by rfl) (by rfl) (hs_there ((ST10.out.olds H7.out HPQ.out).2 BW.out) hb4) Try.infoHand (by rw [← Array.all_toList]; rfl) ?_
          obtain ⟨W2, g2, l2, b2, st2⟩ := ST10.out.putHand ((ST10.out.olds H7.out HPQ.out).2 BW.out) H7.out HPQ.out FB.out HWQ.out hb4 h' x' (R2 := ⟨ra, o'.length, rc, houts o'⟩ :: rowsN (upd n.h b h') (upd x b x')) (inC (List.mem_cons_self ..) (fun r hr => List.mem_cons_of_mem _ (rowsN_of n.h x hb4 h' x' r hr)))
          obtain ⟨we, hw_⟩ : ∃ x, x = wc.setCells q7 (b * 7) (h'.arr x').toList := ⟨_, rfl⟩
          rw [← hw_] at st2 b2 ⊢
          have ST11 := Lib.hid (show Sta W2 (fun k => k ≠ q7) dp d' [⟨q17, #[.int .i64 kd, .bool hi], 45⟩, ⟨q12, (⟨cw, ca, cb, chh⟩ : LCh).arr, 40⟩, ⟨q10, wsArr v2, 38⟩] (ownW (fun m => upd2 n.w a b t (m / 4) (m % 4)) v2) (⟨ra, o'.length, rc, houts o'⟩ :: rowsN (upd n.h b h') (upd x b x')) we from st2)
          have G2 := Lib.hid g2
          have L2 := Lib.hid l2
          have B2 := Lib.hid b2
          clear hw_ st2 g2 l2 b2 ST10
          refine wpList_nil ?_
          refine ⟨⟨⟨we, (ST11.out.cell 0 1 rfl rfl)⟩, rfl⟩, ?_⟩
          simp only [Act.put]
          refine wpV_e (by simp only [List.getElem?_toArray, List.getElem?_cons_succ, List.getElem?_cons_zero] <;> rfl) (by rfl) ?_
          go_wp2_with fail
          refine ⟨⟨⟨we, (ST11.out.cell 0 1 rfl rfl)⟩, rfl⟩, ?_⟩
          refine wpV_done ?_
          clear zc this
          go_upto_block 6 with fail
          have HO := Lib.hid (show HpOut W q7 q10 dp (2 * k) (.slice ra o'.length rc) (.int .i64 b) we from ⟨W2, ⟨upd n.h b h', upd2 n.w a b t⟩, upd x b x', v2, d', o', ra, rc, b, rfl, rfl, hb4, HGI.out.1, fun i j => by have h1 := HPL.out i j; have h2 := HGI.out.2.1; show (upd2 n.w a b t i j).length + o'.length ≤ _; omega, HGI.out.2.1, HGI.out.2.2, G2.out, L2.out, B2.out, ST11.out.dropB (List.Sublist.cons _ (List.Sublist.cons _ (List.Sublist.refl _)))⟩)
          refine wp_tail ?_ (by assumption)
          exact hp_after HK HPW hk4 HO
end Go.Proofs.Ytelepohdfcjnfaa
