/-
  A round of OverlayPairs (printed by gen_opr.py).
-/
import Derived.Test.YtelepohdfcjnfaaGreatZOpSt
import Derived.Test.YtelepohdfcjnfaaGreatZRegionW
import Derived.Deep.CutRange
import Derived.Deep.CutBlock
namespace Go.Proofs.YtelepohdfcjnfaaGreat
open Go.RowKit Go.Proofs

set_option maxHeartbeats 16000000 in
set_option maxRecDepth 100000 in
def OpK (W : World) (q12 q7 q3 : Nat) (s0 s1 : Int) (dp : Value) (bo : Nat → Nat) (am pm : Int) (a1 : Option Addr) (c1 : Nat) (CH : List OCh) (k : Nat) (u0 u2 u4 u5 u8 u9 u10 u26 u27 u28 u29 u30 u31 u32 u33 u34 u35 u36 u37 u38 u39 u40 u41 u42 u43 u44 u45 u46 u47 u48 u49 u50 u51 u52 u53 u54 u55 : Value) (K : Act → World → Prop) : Prop :=
  ∀ (v6 v14 v15 v16 v17 v18 v19 v20 v21 v22 v23 v24 v25 v56 v57 v58 v59 v60 v61 v62 v63 v64 v65 v66 v67 v68 v69 v70 v71 v72 v73 v74 v75 v76 v77 v78 v79 v80 v81 v82 v83 v84 v85 v86 v87 v88 v89 v90 v91 v92 v93 v94 v95 v96 v97 v98 v99 v100 v101 v102 v103 v104 v105 v106 v107 v108 v109 v110 v111 v112 v113 v114 v115 v116 v117 v118 v119 v120 v121 v122 v123 v124 v125 v126 v127 v128 v129 v130 v131 v132 v133 v134 v135 v136 v137 v138 v139 v140 v141 v142 v143 v144 v145 v146 v147 v148 v149 v150 v151 v152 v153 v154 v155 v156 v157 v158 v159 v160 v161 v162 v163 v164 v165 v166 v167 v168 v169 v170 v171 v172 v173 v174 v175 v176 v177 v178 v179 v180 v181 v182 v183 v184 v185 v186 v187 v188 v189 v190 v191 v192 v193 v194 v195 v196 v197 v198 v199 v200 v201 v202 v203 v204 v205 v206 v207 v208 v209 v210 v211 v212 v213 v214 v215 v216 v217 v218 v219 v220 v221 v222 v223 v224 v225 v226 v227 v228 v229 v230 v231 v232 v233 v234 v235 v236 v237 v238 v239 v240 v241 v242 v243 v244 v245 v246 v247 v248 v249 v250 v251 v252 v253 v254 v255 v256 v257 v258 v259 v260 v261 v262 v263 v264 v265 v266 v267 v268 v269 v270 v271 v272 v273 v274 v275 v276 v277 v278 v279 v280 v281 v282 : Value) (w' : World), OpSt W q12 q7 q3 s0 s1 dp bo am pm a1 c1 CH (70 * (k + 1)) w' → K ⟨List.toArray (u0 :: .slice a1 CH.length c1 :: u2 :: .pointer (some ⟨q3, 0, none⟩) :: u4 :: u5 :: v6 :: .pointer (some ⟨q7, 0, none⟩) :: u8 :: u9 :: u10 :: dp :: .pointer (some ⟨q12, 0, none⟩) :: .int .i64 (k : Int) :: v14 :: v15 :: v16 :: v17 :: v18 :: v19 :: v20 :: v21 :: v22 :: v23 :: v24 :: v25 :: u26 :: u27 :: u28 :: u29 :: u30 :: u31 :: u32 :: u33 :: u34 :: u35 :: u36 :: u37 :: u38 :: u39 :: u40 :: u41 :: u42 :: u43 :: u44 :: u45 :: u46 :: u47 :: u48 :: u49 :: u50 :: u51 :: u52 :: u53 :: u54 :: u55 :: v56 :: v57 :: v58 :: v59 :: v60 :: v61 :: v62 :: v63 :: v64 :: v65 :: v66 :: v67 :: v68 :: v69 :: v70 :: v71 :: v72 :: v73 :: v74 :: v75 :: v76 :: v77 :: v78 :: v79 :: v80 :: v81 :: v82 :: v83 :: v84 :: v85 :: v86 :: v87 :: v88 :: v89 :: v90 :: v91 :: v92 :: v93 :: v94 :: v95 :: v96 :: v97 :: v98 :: v99 :: v100 :: v101 :: v102 :: v103 :: v104 :: v105 :: v106 :: v107 :: v108 :: v109 :: v110 :: v111 :: v112 :: v113 :: v114 :: v115 :: v116 :: v117 :: v118 :: v119 :: v120 :: v121 :: v122 :: v123 :: v124 :: v125 :: v126 :: v127 :: v128 :: v129 :: v130 :: v131 :: v132 :: v133 :: v134 :: v135 :: v136 :: v137 :: v138 :: v139 :: v140 :: v141 :: v142 :: v143 :: v144 :: v145 :: v146 :: v147 :: v148 :: v149 :: v150 :: v151 :: v152 :: v153 :: v154 :: v155 :: v156 :: v157 :: v158 :: v159 :: v160 :: v161 :: v162 :: v163 :: v164 :: v165 :: v166 :: v167 :: v168 :: v169 :: v170 :: v171 :: v172 :: v173 :: v174 :: v175 :: v176 :: v177 :: v178 :: v179 :: v180 :: v181 :: v182 :: v183 :: v184 :: v185 :: v186 :: v187 :: v188 :: v189 :: v190 :: v191 :: v192 :: v193 :: v194 :: v195 :: v196 :: v197 :: v198 :: v199 :: v200 :: v201 :: v202 :: v203 :: v204 :: v205 :: v206 :: v207 :: v208 :: v209 :: v210 :: v211 :: v212 :: v213 :: v214 :: v215 :: v216 :: v217 :: v218 :: v219 :: v220 :: v221 :: v222 :: v223 :: v224 :: v225 :: v226 :: v227 :: v228 :: v229 :: v230 :: v231 :: v232 :: v233 :: v234 :: v235 :: v236 :: v237 :: v238 :: v239 :: v240 :: v241 :: v242 :: v243 :: v244 :: v245 :: v246 :: v247 :: v248 :: v249 :: v250 :: v251 :: v252 :: v253 :: v254 :: v255 :: v256 :: v257 :: v258 :: v259 :: v260 :: v261 :: v262 :: v263 :: v264 :: v265 :: v266 :: v267 :: v268 :: v269 :: v270 :: v271 :: v272 :: v273 :: v274 :: v275 :: v276 :: v277 :: v278 :: v279 :: v280 :: v281 :: v282 :: []), []⟩ w'
/-- the ways hold what was said so far -/
def OpPush (W : World) (q12 q7 q3 : Nat) (s0 s1 : Int) (dp : Value) (bo : Nat → Nat) (o : Nat → Ov) (x : Nat → OvP) (ws : Nat → Nat → List Ol) (R : List Rw) (ds : List Int) (p : Nat) (outs : List Om) (j : Nat) (w : World) : Prop :=
  ∃ (wn : Nat → Nat → List Ol) (v : Nat → Value), tells wn = pushMs p (tells ws) ((outs.take j).map Om.m) ∧ (∀ i t, (wn i t).length ≤ (ws i t).length + j) ∧ OpRows o x wn R ∧
    Sta W (fun _ => True) dp ds (opX q12 q7 q3 s0 s1 v bo ++ ovB 5 bo o x) (ownO (fun m => wn (m / 5) (m % 5)) v) R w
theorem push_tells {ws wn : Nat → Nat → List Ol} {p j to_ : Nat} {outs : List Om} {z : Om} (h : tells wn = pushMs p (tells ws) ((outs.take j).map Om.m)) (hj : j < outs.length) (hz : z = outs[j]) (ht : (z.m.who - 1).toNat = to_) :
    tells (upd2 wn p to_ (wn p to_ ++ [⟨false, z.m.mq, z.na, z.nc⟩])) = pushMs p (tells ws) ((outs.take (j + 1)).map Om.m) := by
  rw [List.take_succ_eq_append_getElem hj, ← hz, List.map_append, pushMs_app, ← h, tells_upd, List.map_append, ← ht]
  rfl
theorem push_len {ws wn : Nat → Nat → List Ol} {j p t : Nat} {y : Ol} (h : ∀ i t, (wn i t).length ≤ (ws i t).length + j) : ∀ i r, (upd2 wn p t (wn p t ++ [y]) i r).length ≤ (ws i r).length + (j + 1) := by
  intro i r
  by_cases e : i = p ∧ r = t
  · obtain ⟨rfl, rfl⟩ := e
    rw [upd2_same, List.length_append]
    have := h i r
    simp only [List.length_cons, List.length_nil]
    omega
  · rw [upd2_other _ _ e]
    have := h i r
    omega
theorem viewField (v : Vw) (y : VwP) (w : World) : Sem.run Tryz.prog (Instr.field 60 (.agg (v.arr y)) 1) w = .ok (.agg #[.slice y.aa v.act.length y.ac, .int .i64 v.am]) w := by
  simp [Instr.field, go_sem, part, asAgg]
theorem rowRange {W : World} {O : Nat → Prop} {q : Value} {ds : List Int} {B : List Blk} {L : List Ow} {R : List Rw} {w : World} {br oo c j : Nat} {outs : List Om} {z : Om} (h : Sta W O q ds B L R w) (hm : (⟨some ⟨br, oo, none⟩, outs.length, c, oms outs⟩ : Rw) ∈ R) {hj : j < outs.length} (hz : z = outs[j]) (_ : j < outs.length) :
    w.rangeAt br (oo + j * 8 + 1) [.int .i64 z.m.kind, .int .i64 z.m.node, .int .i64 z.m.walk, .bool z.m.high, .slice z.na z.m.nodes.length z.nc, .slice none 0 0, .slice none 0 0] := by
  obtain ⟨b2, o2, e, h8⟩ := SlA.elem (f := Om.cells) (n := 8) (fun _ => rfl) (by decide) (h.row _ hm) j hj
  injection e with e
  injection e with e1 e2
  subst e1 e2 hz
  intro i u hi
  have := h8 (i + 1) u hi
  rw [← Nat.add_assoc, Nat.add_right_comm] at this
  exact this
set_option maxHeartbeats 16000000 in
set_option maxRecDepth 100000 in
theorem op_after {W : World} {q12 q7 q3 : Nat} {s0 s1 : Int} {dp : Value} {bo : Nat → Nat} {am pm : Int} {a1 : Option Addr} {c1 : Nat} {CH : List OCh} {k : Nat} {u0 u2 u4 u5 u8 u9 u10 u26 u27 u28 u29 u30 u31 u32 u33 u34 u35 u36 u37 u38 u39 u40 u41 u42 u43 u44 u45 u46 u47 u48 u49 u50 u51 u52 u53 u54 u55 : Value} {K N K2 : Act → World → Prop} {P : Ending → World → Prop} {wr : World} {u6 u14 u15 u16 u17 u18 u20 u21 u22 u23 u24 u25 u56 u57 u58 u59 u60 u61 u62 u63 u64 u65 u66 u67 u68 u69 u70 u71 u72 u73 u74 u75 u76 u77 u78 u79 u80 u81 u82 u83 u84 u85 u86 u87 u88 u89 u90 u91 u92 u93 u94 u95 u96 u97 u98 u99 u100 u101 u102 u103 u104 u105 u106 u107 u108 u109 u110 u111 u112 u113 u114 u115 u116 u117 u118 u119 u120 u121 u122 u123 u124 u125 u126 u127 u128 u129 u130 u131 u132 u133 u134 u135 u136 u137 u138 u139 u140 u141 u142 u143 u144 u145 u146 u147 u148 u149 u150 u151 u152 u153 u154 u155 u156 u157 u158 u159 u160 u161 u162 u163 u164 u165 u166 u167 u168 u169 u170 u171 u172 u173 u174 u175 u176 u177 u178 u179 u180 u181 u182 u183 u184 u185 u186 u187 u188 u189 u190 u191 u192 u193 u194 u195 u196 u197 u198 u199 u200 u201 u202 u203 u204 u205 u206 u207 u208 u209 u210 u211 u212 u213 u214 u215 u216 u217 u218 u219 u220 u221 u222 u223 u224 u225 u226 u227 u228 u229 u230 u231 u232 u233 u234 u235 u236 u237 u238 u239 u240 u241 u242 u243 u244 u245 u246 u247 u248 u249 u250 u251 u252 u253 u254 u255 u256 u257 u258 u259 u260 u261 u262 u263 u264 u265 u266 u267 u268 u269 u270 u271 u272 u273 u274 u275 u276 u277 u278 u279 u280 u281 u282 : Value}
    (HK : Hid (OpK W q12 q7 q3 s0 s1 dp bo am pm a1 c1 CH k u0 u2 u4 u5 u8 u9 u10 u26 u27 u28 u29 u30 u31 u32 u33 u34 u35 u36 u37 u38 u39 u40 u41 u42 u43 u44 u45 u46 u47 u48 u49 u50 u51 u52 u53 u54 u55 K)) (hk2 : k < 200) (HR0 : Hid (∃ r, bits .and .u8 s0 1 = r ∧ 0 ≤ r ∧ r ≤ 1 ∧ am = 2 + r)) (HR1 : Hid (∃ r, bits .and .u8 s1 3 = r ∧ 0 ≤ r ∧ r ≤ 3 ∧ pm = 1 + r))
    (HO : Hid (OpOut W q12 q7 q3 s0 s1 dp bo am pm a1 c1 CH (70 * k) u16 u17 wr)) :
    Code.wp Tryz.prog (codeAt [1, 1, 1, 1, 1, 1, 0, 1, 0, 0, 1, 0, 0, 1, 1, 1, 1, 0, 1] (Tryz.f4.body.getD .skip)) (Exit.then (fun a w => Code.wp Tryz.prog (codeAt [1, 1, 1, 1, 1, 1, 0, 1, 0, 0, 1, 0, 0, 1, 1, 1, 1, 1] (Tryz.f4.body.getD .skip)) (Exit.inBlock 3 (Exit.then K (Exit.then N (Exit.inBlock 2 (Exit.then K2 (bodyPost Tryz.prog Tryz.f4 P)))))) a w) (Exit.inBlock 3 (Exit.then K (Exit.then N (Exit.inBlock 2 (Exit.then K2 (bodyPost Tryz.prog Tryz.f4 P))))))) ⟨List.toArray (u0 :: .slice a1 CH.length c1 :: u2 :: .pointer (some ⟨q3, 0, none⟩) :: u4 :: u5 :: u6 :: .pointer (some ⟨q7, 0, none⟩) :: u8 :: u9 :: u10 :: dp :: .pointer (some ⟨q12, 0, none⟩) :: .int .i64 (k : Int) :: u14 :: u15 :: u16 :: u17 :: u18 :: .int .i64 0 :: u20 :: u21 :: u22 :: u23 :: u24 :: u25 :: u26 :: u27 :: u28 :: u29 :: u30 :: u31 :: u32 :: u33 :: u34 :: u35 :: u36 :: u37 :: u38 :: u39 :: u40 :: u41 :: u42 :: u43 :: u44 :: u45 :: u46 :: u47 :: u48 :: u49 :: u50 :: u51 :: u52 :: u53 :: u54 :: u55 :: u56 :: u57 :: u58 :: u59 :: u60 :: u61 :: u62 :: u63 :: u64 :: u65 :: u66 :: u67 :: u68 :: u69 :: u70 :: u71 :: u72 :: u73 :: u74 :: u75 :: u76 :: u77 :: u78 :: u79 :: u80 :: u81 :: u82 :: u83 :: u84 :: u85 :: u86 :: u87 :: u88 :: u89 :: u90 :: u91 :: u92 :: u93 :: u94 :: u95 :: u96 :: u97 :: u98 :: u99 :: u100 :: u101 :: u102 :: u103 :: u104 :: u105 :: u106 :: u107 :: u108 :: u109 :: u110 :: u111 :: u112 :: u113 :: u114 :: u115 :: u116 :: u117 :: u118 :: u119 :: u120 :: u121 :: u122 :: u123 :: u124 :: u125 :: u126 :: u127 :: u128 :: u129 :: u130 :: u131 :: u132 :: u133 :: u134 :: u135 :: u136 :: u137 :: u138 :: u139 :: u140 :: u141 :: u142 :: u143 :: u144 :: u145 :: u146 :: u147 :: u148 :: u149 :: u150 :: u151 :: u152 :: u153 :: u154 :: u155 :: u156 :: u157 :: u158 :: u159 :: u160 :: u161 :: u162 :: u163 :: u164 :: u165 :: u166 :: u167 :: u168 :: u169 :: u170 :: u171 :: u172 :: u173 :: u174 :: u175 :: u176 :: u177 :: u178 :: u179 :: u180 :: u181 :: u182 :: u183 :: u184 :: u185 :: u186 :: u187 :: u188 :: u189 :: u190 :: u191 :: u192 :: u193 :: u194 :: u195 :: u196 :: u197 :: u198 :: u199 :: u200 :: u201 :: u202 :: u203 :: u204 :: u205 :: u206 :: u207 :: u208 :: u209 :: u210 :: u211 :: u212 :: u213 :: u214 :: u215 :: u216 :: u217 :: u218 :: u219 :: u220 :: u221 :: u222 :: u223 :: u224 :: u225 :: u226 :: u227 :: u228 :: u229 :: u230 :: u231 :: u232 :: u233 :: u234 :: u235 :: u236 :: u237 :: u238 :: u239 :: u240 :: u241 :: u242 :: u243 :: u244 :: u245 :: u246 :: u247 :: u248 :: u249 :: u250 :: u251 :: u252 :: u253 :: u254 :: u255 :: u256 :: u257 :: u258 :: u259 :: u260 :: u261 :: u262 :: u263 :: u264 :: u265 :: u266 :: u267 :: u268 :: u269 :: u270 :: u271 :: u272 :: u273 :: u274 :: u275 :: u276 :: u277 :: u278 :: u279 :: u280 :: u281 :: u282 :: []), []⟩ wr := by
  conv => arg 2; whnf
  obtain ⟨o, x, ws, v0, ds, R, outs, a, c, p, rfl, rfl, hp5, hn, hln, hol, hob, hrw, hch, hor, har, st⟩ := HO.out
  have HN := Lib.hid hn
  have HLN := Lib.hid hln
  have HOB := Lib.hid hob
  have HRW := Lib.hid hrw
  have HCH := Lib.hid hch
  have HOR := Lib.hid hor
  have HAR := Lib.hid har
  have HP0 := Lib.hid (show OpPush W q12 q7 q3 s0 s1 dp bo o x ws R ds p outs 0 wr from ⟨ws, v0, rfl, fun i t => Nat.le_refl _, hrw, st⟩)
  have m1 := (st.row _ har).le
  have m2 := (st.row _ har).max
  simp only at m1 m2
  clear hn hln hob hrw hch hor har st HO
  go_wp2_with fail
  generalize wr = wr0 at HP0 ⊢
  go_loopw [19] (fun iv wr => ∃ k : Nat, iv = .int .i64 k ∧ k ≤ outs.length ∧ OpPush W q12 q7 q3 s0 s1 dp bo o x ws R ds p outs k wr) (fun iv _ => outs.length - (intOf iv).toNat)
  case atStart => exact ⟨0, rfl, Nat.zero_le _, HP0.out⟩
  case round =>
    obtain ⟨j, rfl, hj, hpu⟩ := hrel
    have HPU := Lib.hid hpu
    clear hpu HP0
    by_cases hjl : j < outs.length
    · obtain ⟨wn, v, hte, hle, hrn, st⟩ := HPU.out
      have HTE := Lib.hid hte
      have HLE := Lib.hid hle
      have HRN := Lib.hid hrn
      have ST1 := Lib.hid st
      clear st HPU hte hle hrn
      obtain ⟨br, oo, rfl, ho8⟩ := SlA.elem (f := Om.cells) (n := 8) (fun _ => rfl) (by decide) (ST1.out.row _ HAR.out) j hjl
      have hb := HOB.out _ (List.getElem_mem hjl)
      have HROW := Lib.hid (HOR.out _ (List.getElem_mem hjl))
      obtain ⟨z, hz⟩ : ∃ z, z = outs[j] := ⟨_, rfl⟩
      rw [← hz] at hb HROW ho8
      have HZ := Lib.hid hz
      have y0 : wr.cell? ⟨br, oo + j * 8, none⟩ = some (.int .i64 z.m.who) := ho8 0 _ rfl
      have HRG := Lib.hid (show wr.rangeAt br (oo + j * 8 + 1) [.int .i64 z.m.kind, .int .i64 z.m.node, .int .i64 z.m.walk, .bool z.m.high, .slice z.na z.m.nodes.length z.nc, .slice none 0 0, .slice none 0 0] from fun i u hi => by have := ho8 (i + 1) u hi; rw [← Nat.add_assoc, Nat.add_right_comm] at this; exact this)
      have HMS := Lib.hid hb.msg
      obtain ⟨to_, hto⟩ : ∃ t : Nat, z.m.who - 1 = (t : Int) := ⟨(z.m.who - 1).toNat, by have := hb.who; omega⟩
      have t5 : to_ < 5 := by have := hb.who; omega
      have tp : to_ ≠ p := by have := hb.who; omega
      have w1 : 1 ≤ z.m.who ∧ z.m.who ≤ 5 := by have := hb.who; omega
      have HTO := Lib.hid (show (z.m.who - 1).toNat = to_ by omega)
      clear hz ho8 hb
      have CE := Lib.hid (encQ_any (N := 5) (by decide) z.m.mq z.na z.nc wr HMS.out (ST1.out.row _ HROW.out))
      go_upto_region 35 with fail
      clear y0
      have c1 : decide ((to_ : Int) < 0) = false := decide_eq_false (by omega)
      have c2 : decide ((5 : Int) ≤ (to_ : Int)) = false := decide_eq_false (by omega)
      have c3 : ((to_ : Int) == (p : Int)) = false := by simp; omega
      go_upto_region 37 with fail
      clear c1 c2 c3 hto w1
      go_wp2_with (refine wpList_load_mid (by rfl) 76 _ (by rfl) br (oo + j * 8 + 1) (by rfl) [.int .i64 z.m.kind, .int .i64 z.m.node, .int .i64 z.m.walk, .bool z.m.high, .slice z.na z.m.nodes.length z.nc, .slice none 0 0, .slice none 0 0] _ HRG.out Tryz.underlying76 rfl Tryz.infoMsg7 ?_)
      refine CE.out.mono ?_
      rintro e w2 ⟨es, rfl, f2⟩
      have F2 := Lib.hid f2
      clear f2 CE
      go_upto_region 40 with fail
      have HRG2 := Lib.hid (show w2.rangeAt br (oo + j * 8 + 1) [.int .i64 z.m.kind, .int .i64 z.m.node, .int .i64 z.m.walk, .bool z.m.high, .slice z.na z.m.nodes.length z.nc, .slice none 0 0, .slice none 0 0] from fun i u hi => F2.out.cell (HRG.out i u hi) (fun h => h))
      have ST2 := Lib.hid (show Sta W (fun _ => True) dp ds (⟨q12, wsN 25 v, 71⟩ :: ⟨q7, ptrs bo 5, 67⟩ :: ⟨q3, #[.int .u8 s0, .int .u8 s1], 65⟩ :: ovB 5 bo o x) (ownO (fun m => wn (m / 5) (m % 5)) v) (R) w2 from ST1.out.gr F2.out)
      clear ST1 F2 HRG
      have HM := Lib.hid (show p * 5 + to_ < 25 by omega)
      have HLW := Lib.hid (show (wn p to_).length ≤ 70 * k + 140 by have h1 := HLE.out p to_; have h2 := HLN.out p to_; omega)
      obtain ⟨w3, hwd⟩ : ∃ x, x = w2.drew := ⟨_, rfl⟩
      have HWD := Lib.hid hwd
      have ST3 := Lib.hid (show Sta W (fun _ => True) dp ds (⟨q12, wsN 25 v, 71⟩ :: ⟨q7, ptrs bo 5, 67⟩ :: ⟨q3, #[.int .u8 s0, .int .u8 s1], 65⟩ :: ovB 5 bo o x) (ownO (fun m => wn (m / 5) (m % 5)) v) (R) w3 from hwd ▸ ST2.out.gr ((Fr.refl _ _).drew))
      clear ST2 hwd
      haveI : Nonempty (WC (fun w => w.cell? ⟨q12, p * 5 + to_, none⟩ = some (v (p * 5 + to_)) ∧ w.rangeAt br (oo + j * 8 + 1) [.int .i64 z.m.kind, .int .i64 z.m.node, .int .i64 z.m.walk, .bool z.m.high, .slice z.na z.m.nodes.length z.nc, .slice none 0 0, .slice none 0 0])) := ⟨⟨w3, ⟨(ST3.out.cell 0 (p * 5 + to_) rfl (wsN_get v HM.out)), (rowRange ST3.out HAR.out HZ.out hjl)⟩⟩⟩
      have z0 : ∀ z : WC (fun w => w.cell? ⟨q12, p * 5 + to_, none⟩ = some (v (p * 5 + to_)) ∧ w.rangeAt br (oo + j * 8 + 1) [.int .i64 z.m.kind, .int .i64 z.m.node, .int .i64 z.m.walk, .bool z.m.high, .slice z.na z.m.nodes.length z.nc, .slice none 0 0, .slice none 0 0]), z.val.cell? ⟨q12, p * 5 + to_, none⟩ = some (v (p * 5 + to_)) := fun z => z.ok.1
      refine wp_region_lastO 17 [13, 14] [] [0, 1, 2, 3, 4, 5, 6, 7, 8, 9, 10, 11, 12, 13, 14, 15, 16] (fun w' => ∃ z : WC (fun w => w.cell? ⟨q12, p * 5 + to_, none⟩ = some (v (p * 5 + to_)) ∧ w.rangeAt br (oo + j * 8 + 1) [.int .i64 z.m.kind, .int .i64 z.m.node, .int .i64 z.m.walk, .bool z.m.high, .slice z.na z.m.nodes.length z.nc, .slice none 0 0, .slice none 0 0]), w' = z.val) (by kernel_rfl) (by kernel_rfl) (fun c a w d v h => by cases d <;> exact h) (fun c a w d v h => by cases d <;> exact h) (by rw [← HWD.out]; exact ⟨⟨w3, ⟨(ST3.out.cell 0 (p * 5 + to_) rfl (wsN_get v HM.out)), (rowRange ST3.out HAR.out HZ.out hjl)⟩⟩, rfl⟩) ?_
      rw [← HWD.out]
      clear HWD
      simp only [List.take]
      refine wpT_q (by simp only [List.getElem?_toArray, List.getElem?_cons_zero] <;> rfl) (by rfl) (by rfl) ?_
      go_big_quiet_step (fail)
      refine wpQuiet_nil ?_
      refine wpT_q (by simp only [List.getElem?_toArray, List.getElem?_cons_succ, List.getElem?_cons_zero] <;> rfl) (by rfl) (by rfl) ?_
      go_big_quiet_step (fail)
      refine wpQuiet_nil ?_
      refine wpT_q (by simp only [List.getElem?_toArray, List.getElem?_cons_succ, List.getElem?_cons_zero] <;> rfl) (by rfl) (by rfl) ?_
      go_big_quiet_step (fail)
      refine wpQuiet_nil ?_
      refine wpT_q (by simp only [List.getElem?_toArray, List.getElem?_cons_succ, List.getElem?_cons_zero] <;> rfl) (by rfl) (by rfl) ?_
      go_big_quiet_step (fail)
      refine wpQuiet_nil ?_
      refine wpT_q (by simp only [List.getElem?_toArray, List.getElem?_cons_succ, List.getElem?_cons_zero] <;> rfl) (by rfl) (by rfl) ?_
      go_big_quiet_step (fail)
      refine wpQuiet_nil ?_
      refine wpT_q (by simp only [List.getElem?_toArray, List.getElem?_cons_succ, List.getElem?_cons_zero] <;> rfl) (by rfl) (by rfl) ?_
      go_big_quiet_step (fail)
      refine wpQuiet_nil ?_
      refine wpT_q (by simp only [List.getElem?_toArray, List.getElem?_cons_succ, List.getElem?_cons_zero] <;> rfl) (by rfl) (by rfl) ?_
      go_big_quiet_step (fail)
      refine wpQuiet_nil ?_
      refine wpT_q (by simp only [List.getElem?_toArray, List.getElem?_cons_succ, List.getElem?_cons_zero] <;> rfl) (by rfl) (by rfl) ?_
      go_big_quiet_step (fail)
      refine wpQuiet_nil ?_
      refine wpT_q (by simp only [List.getElem?_toArray, List.getElem?_cons_succ, List.getElem?_cons_zero] <;> rfl) (by rfl) (by rfl) ?_
      go_big_quiet_step (fail)
      refine wpQuiet_nil ?_
      refine wpT_q (by simp only [List.getElem?_toArray, List.getElem?_cons_succ, List.getElem?_cons_zero] <;> rfl) (by rfl) (by rfl) ?_
      go_big_quiet_step (fail)
      refine wpQuiet_nil ?_
      refine wpT_q (by simp only [List.getElem?_toArray, List.getElem?_cons_succ, List.getElem?_cons_zero] <;> rfl) (by rfl) (by rfl) ?_
      go_big_quiet_step (fail)
      refine wpQuiet_nil ?_
      refine wpT_q (by simp only [List.getElem?_toArray, List.getElem?_cons_succ, List.getElem?_cons_zero] <;> rfl) (by rfl) (by rfl) ?_
      refine wpQuiet_loadH (by rfl) 76 _ (by rfl) br (oo + j * 8 + 1) (by rfl) [.int .i64 z.m.kind, .int .i64 z.m.node, .int .i64 z.m.walk, .bool z.m.high, .slice z.na z.m.nodes.length z.nc, .slice none 0 0, .slice none 0 0] _ (fun w ⟨z, hz⟩ => hz ▸ z.ok.2) Tryz.underlying76 rfl Tryz.infoMsg7 ?_
      refine wpQuiet_nil ?_
      simp only [Act.put, List.setIfInBounds_toArray, List.set_cons_succ, List.set_cons_zero]
      refine wpT_q (by simp only [List.getElem?_toArray, List.getElem?_cons_succ, List.getElem?_cons_zero] <;> rfl) (by rfl) (by rfl) ?_
      go_big_quiet_step (fail)
      refine wpQuiet_nil ?_
      refine wpT_e (by simp only [List.getElem?_toArray, List.getElem?_cons_succ, List.getElem?_cons_zero] <;> rfl) (by rfl) ?_
      go_wp2_with fail
      obtain ⟨w4, hw_⟩ : ∃ x, x = w3.alloc (.cells #[.bool false, .int .i64 z.m.kind, .int .i64 z.m.node, .int .i64 z.m.walk, .bool z.m.high, .slice z.na z.m.nodes.length z.nc, .slice none 0 0, .slice none 0 0] 78) := ⟨_, rfl⟩
      obtain ⟨nb, hob_⟩ : ∃ b, b = w3.heap.size := ⟨_, rfl⟩
      rw [← hw_, ← hob_]
      have ST4 := Lib.hid (show Sta W (fun _ => True) dp ds (⟨q12, wsN 25 v, 71⟩ :: ⟨q7, ptrs bo 5, 67⟩ :: ⟨q3, #[.int .u8 s0, .int .u8 s1], 65⟩ :: ovB 5 bo o x) (⟨78, 8, .slice (some ⟨nb, 0, none⟩) 1 1, 1, [.bool false, .int .i64 z.m.kind, .int .i64 z.m.node, .int .i64 z.m.walk, .bool z.m.high, .slice z.na z.m.nodes.length z.nc, .slice none 0 0, .slice none 0 0]⟩ :: (ownO (fun m => wn (m / 5) (m % 5)) v)) (R) w4 from hw_ ▸ ST3.out.ownNew ((Fr.refl _ _).alloc _) (xs := [.bool false, .int .i64 z.m.kind, .int .i64 z.m.node, .int .i64 z.m.walk, .bool z.m.high, .slice z.na z.m.nodes.length z.nc, .slice none 0 0, .slice none 0 0]) (n := 1) (by rw [heap_alloc_if, if_pos hob_]) (Nat.le_of_eq hob_.symm) rfl (by decide))
      clear ST3 hw_ hob_
      refine ⟨⟨⟨w4, ⟨(ST4.out.cell 0 (p * 5 + to_) rfl (wsN_get v HM.out)), (rowRange ST4.out HAR.out HZ.out hjl)⟩⟩, rfl⟩, ?_⟩
      refine wpT_e (by simp only [List.getElem?_toArray, List.getElem?_cons_succ, List.getElem?_cons_zero] <;> rfl) (by rfl) ?_
      refine wpList_growT (by rfl) _ _ 69 78 8 112 (.agg #[.bool false, .int .i64 0, .int .i64 0, .int .i64 0, .bool false, .slice none 0 0, .slice none 0 0, .slice none 0 0]) Tryz.underlying69 Tryz.infoOpLetter rfl (by decide) (by decide) (by rfl) ST4.out (p * 5 + to_ + 1) (by rw [List.getElem?_cons_succ]; exact ownO_at wn v hp5 t5) (by rfl) (by rfl) (own_add (ST4.out.ownAt 0 rfl)) (by rfl) rfl (by have := HLW.out; omega) ?_
      intro v7 w5 hst
      refine wpList_nil ?_
      have ST5 := Lib.hid (show Sta W (fun _ => True) dp ds (⟨q12, wsN 25 v, 71⟩ :: ⟨q7, ptrs bo 5, 67⟩ :: ⟨q3, #[.int .u8 s0, .int .u8 s1], 65⟩ :: ovB 5 bo o x) ((ownO (fun m => wn (m / 5) (m % 5)) v).set (p * 5 + to_) ⟨78, 8, v7, (wn p to_).length + 1, ols (wn p to_) ++ [.bool false, .int .i64 z.m.kind, .int .i64 z.m.node, .int .i64 z.m.walk, .bool z.m.high, .slice z.na z.m.nodes.length z.nc, .slice none 0 0, .slice none 0 0]⟩) (R) w5 from hst.less (List.Sublist.cons _ (List.Sublist.refl _)) (fun _ h => h))
      clear hst ST4
      refine ⟨⟨⟨w5, ⟨(ST5.out.cell 0 (p * 5 + to_) rfl (wsN_get v HM.out)), (rowRange ST5.out HAR.out HZ.out hjl)⟩⟩, rfl⟩, ?_⟩
      simp only [Act.put, List.setIfInBounds_toArray, List.set_cons_succ, List.set_cons_zero]
      refine wpT_q (by simp only [List.getElem?_toArray, List.getElem?_cons_succ, List.getElem?_cons_zero] <;> rfl) (by rfl) (by rfl) ?_
      go_big_quiet_step (fail)
      refine wpQuiet_nil ?_
      refine wpT_q (by simp only [List.getElem?_toArray, List.getElem?_cons_succ, List.getElem?_cons_zero] <;> rfl) (by rfl) (by rfl) ?_
      go_big_quiet_step (fail)
      refine wpQuiet_nil ?_
      clear this z0
      refine wpT_nil ?_
      simp only [lastQ, List.drop]
      obtain ⟨a7, c7, hv7, -, -, -⟩ := SlA.of_own (ST5.out.ownAt (p * 5 + to_) (by rw [List.getElem?_set_self (by unfold ownO; rw [List.length_map, List.length_range]; exact HM.out)]))
      subst hv7
      have HL2 := Lib.hid (show ownO (fun m => (upd2 wn p to_ (wn p to_ ++ [⟨false, z.m.mq, z.na, z.nc⟩])) (m / 5) (m % 5)) (upd v (p * 5 + to_) (.slice a7 ((wn p to_).length + 1) c7)) = ((ownO (fun m => wn (m / 5) (m % 5)) v).set (p * 5 + to_) ⟨78, 8, .slice a7 ((wn p to_).length + 1) c7, (wn p to_).length + 1, ols (wn p to_) ++ [.bool false, .int .i64 z.m.kind, .int .i64 z.m.node, .int .i64 z.m.walk, .bool z.m.high, .slice z.na z.m.nodes.length z.nc, .slice none 0 0, .slice none 0 0]⟩) by
        rw [flat_updN _ t5, ← ownO_set, ols_snoc, List.length_append]
        rfl)
      have zc : w5.cell? ⟨q12, p * 5 + to_, none⟩ = some (v (p * 5 + to_)) := ST5.out.cell 0 _ rfl (wsN_get v HM.out)
      have zf : w5.frozen? ⟨q12, p * 5 + to_, none⟩ = false := ST5.out.froz 0 _ rfl
      go_wp2_with fail
      clear zc zf
      obtain ⟨w6, hw_⟩ : ∃ x, x = w5.setCell ⟨q12, p * 5 + to_, none⟩ (.slice a7 ((wn p to_).length + 1) c7) := ⟨_, rfl⟩
      rw [← hw_]
      have ST6 := Lib.hid (show Sta W (fun _ => True) dp ds (⟨q12, wsN 25 (upd v (p * 5 + to_) (.slice a7 ((wn p to_).length + 1) c7)), 71⟩ :: ⟨q7, ptrs bo 5, 67⟩ :: ⟨q3, #[.int .u8 s0, .int .u8 s1], 65⟩ :: ovB 5 bo o x) (ownO (fun m => (upd2 wn p to_ (wn p to_ ++ [⟨false, z.m.mq, z.na, z.nc⟩])) (m / 5) (m % 5)) (upd v (p * 5 + to_) (.slice a7 ((wn p to_).length + 1) c7))) (R) w6 by
        rw [HL2.out, ← wsN_put v HM.out]
        exact hw_ ▸ ST5.out.setC 0 rfl (p * 5 + to_) (.slice a7 ((wn p to_).length + 1) c7) (by rw [wsN_size]; have := HM.out; omega))
      clear hw_ ST5 HL2
      go_roundw
      case rel =>
        refine ⟨j + 1, by go_num, hjl, _, _, push_tells HTE.out hjl HZ.out HTO.out, push_len HLE.out, HRN.out.way2 (fun y hy => ?_) (fun _ h => h), ST6.out⟩
        rcases List.mem_append.1 hy with h | h
        · exact HRN.out.way _ _ _ h
        · rw [List.mem_singleton.1 h]
          exact HROW.out
      case measure => simp [intOf]; omega
    · obtain rfl : j = outs.length := by omega
      obtain ⟨wn, v, hte, hle, hrn, st⟩ := HPU.out
      rw [List.take_length] at hte
      obtain ⟨wf, hwf⟩ : ∃ x, x = wr := ⟨_, rfl⟩
      rw [← hwf] at st
      have hn2 := HN.out
      rw [← hte] at hn2
      have HN2 := Lib.hid hn2
      have HRN := Lib.hid hrn
      have HLN2 := Lib.hid (show ∀ i t, (wn i t).length ≤ 70 * (k + 1) from fun i t => by have h1 := hle i t; have h2 := HLN.out i t; omega)
      have ST1 := Lib.hid st
      have GF := Lib.hid (show Gr wf wr from hwf ▸ Fr.refl _ _)
      clear st HPU hwf HOB HLN hle hrn hte hn2 HN HRW HOR HAR hjl hj m1 m2
      obtain ⟨r0, hr0, hr00, hr01, ham⟩ := HR0.out
      obtain ⟨r1, hr1, hr10, hr11, hpm⟩ := HR1.out
      obtain ⟨iv_, hv1, hv2, hv3⟩ := info_pair Tryz.zeroView
      go_wp2_with fail
      conv => arg 2; whnf
      go_upto_region 41 with fail
      go_wp2_with fail
      generalize wr = wr1 at GF ⊢
      go_loopw [23] (fun iv wr => ∃ i : Nat, iv = .int .i64 i ∧ i ≤ 5 ∧ Gr wf wr) (fun iv _ => 5 - (intOf iv).toNat)
      case atStart => exact ⟨0, rfl, by decide, GF.out⟩
      case round =>
        obtain ⟨i, rfl, hi, gi⟩ := hrel
        have GI := Lib.hid gi
        clear gi GF
        by_cases hi5 : i < 5
        · have d1 : decide ((i : Int) < 5) = true := decide_eq_true (by omega)
          have ST2 := Lib.hid (ST1.out.gr GI.out)
          have CV := Lib.hid (ovView_any (o i) (x i) dp ds W (fun _ => True) _ _ R (bo i) wr ((show Sta W (fun _ => True) dp ds (opX q12 q7 q3 s0 s1 v bo ++ ovB 5 bo o x) (ownO (fun m => wn (m / 5) (m % 5)) v) R wr from ST2.out).ovIn hi5 (HRN.out.ov i hi5)))
          have y7 : wr.cell? ⟨q7, i, none⟩ = some (.pointer (some ⟨bo i, 0, none⟩)) := ST2.out.cell 1 i rfl (ptrs_get hi5 hi5)
          go_upto_region 44 with fail
          go_wp2_with fail
          refine CV.out.mono ?_
          rintro e w2 ⟨rfl, f2⟩
          go_wp2_with (refine wpList_fresh (vs := (o i).h.v.arr (x i).x.x) hv1 hv2 Tryz.infoView (by rfl) (by rw [← Array.all_toList]; rfl) (by rfl) (by rfl) ?_)
          intro w3 f3 b3 g3
          obtain ⟨q24, hq24⟩ : ∃ q, q = w2.heap.size := ⟨_, rfl⟩
          rw [← hq24] at b3 g3 ⊢
          have F3 := Lib.hid (Gr.trans f2 f3)
          have B24 := Lib.hid b3
          clear f2 f3 b3 g3 hq24 y7 CV
          have hsane : vSane (o i).h.v = true := (vSane_iff _).2 (HN2.out.net.hi i hi5).sane
          have hl1 : decide (2 + r0 < ((o i).h.v.act.length : Int)) = false := decide_eq_false (by have e1 : ((o i).h.v.act.length : Int) ≤ (o i).h.v.am := (HN2.out.ok i hi5).h.v.act.fit; have e2 : (o i).h.v.am = am := (HN2.out.am i hi5).1; omega)
          have hl2 : decide (1 + r1 < ((o i).h.v.pas.length : Int)) = false := decide_eq_false (by have e1 : ((o i).h.v.pas.length : Int) ≤ (o i).h.v.pm := (HN2.out.ok i hi5).h.v.pas.fit; have e2 : (o i).h.v.pm = pm := (HN2.out.am i hi5).2; omega)
          go_upto_region 45 with fail
          simp only [Act.put, List.setIfInBounds_toArray, List.set_cons_succ, List.set_cons_zero]
          have ST3 := Lib.hid (ST2.out.gr F3.out)
          have CS := Lib.hid (show ∀ w, Gr w3 w → Calls Tryz.prog 15 #[(o i).h.v.val (x i).x.x] w (fun e w' => e = .returned (.bool true) ∧ Gr w w') from fun w f => by
            have h := viewSane_any (o i).h.v (x i).x.x w ((ST3.out.gr f).vw (HRN.out.ov i hi5 _ (at_ 1 rfl)) (HRN.out.ov i hi5 _ (at_ 2 rfl)) (HN2.out.ok i hi5).h.v)
            rw [hsane] at h
            exact h)
          clear hsane
          haveI : Nonempty (WC (Gr w3)) := ⟨⟨w3, Fr.refl _ _⟩⟩
          have z0 : ∀ z2 : WC (Gr w3), z2.val.cell? ⟨q24, 0, none⟩ = some (.int .i64 (o i).h.v.self) := fun z2 => z2.ok.cell ((by rw [Lib.cell_of_heap B24.out]; rfl)) (fun h => h)
          have z1 : ∀ z2 : WC (Gr w3), z2.val.cell? ⟨q24, 1, none⟩ = some (.slice (x i).x.x.aa (o i).h.v.act.length (x i).x.x.ac) := fun z2 => z2.ok.cell ((by rw [Lib.cell_of_heap B24.out]; rfl)) (fun h => h)
          have z2 : ∀ z2 : WC (Gr w3), z2.val.cell? ⟨q24, 2, none⟩ = some (.int .i64 (o i).h.v.am) := fun z2 => z2.ok.cell ((by rw [Lib.cell_of_heap B24.out]; rfl)) (fun h => h)
          have z3 : ∀ z2 : WC (Gr w3), z2.val.cell? ⟨q24, 3, none⟩ = some (.slice (x i).x.x.pa (o i).h.v.pas.length (x i).x.x.pc) := fun z2 => z2.ok.cell ((by rw [Lib.cell_of_heap B24.out]; rfl)) (fun h => h)
          have z4 : ∀ z2 : WC (Gr w3), z2.val.cell? ⟨q24, 4, none⟩ = some (.int .i64 (o i).h.v.pm) := fun z2 => z2.ok.cell ((by rw [Lib.cell_of_heap B24.out]; rfl)) (fun h => h)
          have z5 : ∀ z2 : WC (Gr w3), z2.val.cell? ⟨q3, 0, none⟩ = some (.int .u8 s0) := fun z2 => z2.ok.cell ((ST3.out.cell 2 0 rfl rfl)) (fun h => h)
          have z6 : ∀ z2 : WC (Gr w3), z2.val.cell? ⟨q3, 1, none⟩ = some (.int .u8 s1) := fun z2 => z2.ok.cell ((ST3.out.cell 2 1 rfl rfl)) (fun h => h)
          refine wp_region_plan [1, 6, 17] (Plan.seq [0, 1, 2, 3, 4, 5, 6, 7, 8, 9, 10, 11, 12, 13, 14, 15, 16, 17, 18, 19, 20, 21, 22, 23, 24] .done) (fun w' => ∃ z' : WC (Gr w3), w' = z'.val) (by kernel_rfl) (by kernel_rfl) (fun c a w d v h => by cases d <;> exact h) (fun c a w d v h => by cases d <;> exact h) ⟨⟨w3.drew, (Fr.refl _ _).drew⟩, rfl⟩ ?_
          simp only [Plan.seq, List.foldr]
          refine wpV_q (by simp only [List.getElem?_toArray, List.getElem?_cons_zero] <;> rfl) (by rfl) (by rfl) ?_
          go_big_quiet_step (fail)
          refine wpQuiet_nil ?_
          repeat (refine wpV_q (by simp only [List.getElem?_toArray, List.getElem?_cons_succ, List.getElem?_cons_zero] <;> rfl) (by rfl) (by rfl) ?_; go_big_quiet_step (fail); refine wpQuiet_nil ?_)
          refine wpV_e (by simp only [List.getElem?_toArray, List.getElem?_cons_succ, List.getElem?_cons_zero] <;> rfl) (by rfl) ?_
          go_wp2_with fail
          refine (CS.out _ (show Gr w3 w3.drew from (Fr.refl _ _).drew)).mono ?_
          rintro e w4 ⟨rfl, f4⟩
          have Fw4 : Gr w3 w4 := Gr.trans (show Gr w3 w3.drew from (Fr.refl _ _).drew) f4
          go_wp2_with fail
          refine ⟨⟨⟨w4, Fw4⟩, rfl⟩, ?_⟩
          repeat (refine wpV_q (by simp only [List.getElem?_toArray, List.getElem?_cons_succ, List.getElem?_cons_zero] <;> rfl) (by rfl) (by rfl) ?_; go_big_quiet_step (fail); refine wpQuiet_nil ?_)
          refine wpV_e (by simp only [List.getElem?_toArray, List.getElem?_cons_succ, List.getElem?_cons_zero] <;> rfl) (by rfl) ?_
          go_wp2_with fail
          refine (setLen_any _ _ _ _ _).mono ?_
          rintro e w5 ⟨rfl, f5⟩
          have Fw5 : Gr w3 w5 := Gr.trans Fw4 f5
          go_wp2_with fail
          refine ⟨⟨⟨w5, Fw5⟩, rfl⟩, ?_⟩
          repeat (refine wpV_q (by simp only [List.getElem?_toArray, List.getElem?_cons_succ, List.getElem?_cons_zero] <;> rfl) (by rfl) (by rfl) ?_; go_big_quiet_step (fail); refine wpQuiet_nil ?_)
          refine wpV_e (by simp only [List.getElem?_toArray, List.getElem?_cons_succ, List.getElem?_cons_zero] <;> rfl) (by rfl) ?_
          go_wp2_with fail
          refine (setLen_any _ _ _ _ _).mono ?_
          rintro e w6 ⟨rfl, f6⟩
          have Fw6 : Gr w3 w6 := Gr.trans Fw5 f6
          go_wp2_with fail
          refine ⟨⟨⟨w6, Fw6⟩, rfl⟩, ?_⟩
          repeat (refine wpV_q (by simp only [List.getElem?_toArray, List.getElem?_cons_succ, List.getElem?_cons_zero] <;> rfl) (by rfl) (by rfl) ?_; go_big_quiet_step (fail); refine wpQuiet_nil ?_)
          clear f4 f5 f6 Fw4 Fw5
          refine wpV_done ?_
          have FZ := Lib.hid Fw6
          clear this z0 z1 z2 z3 z4 z5 z6
          go_wp2_with fail
          have G6 := Lib.hid (Gr.trans GI.out (Gr.trans F3.out FZ.out))
          have ST6 := Lib.hid (ST3.out.gr FZ.out)
          have B6 := Lib.hid (blk_keep FZ.out B24.out (fun h => h))
          clear ST2 ST3 B24 F3 FZ CS hl1 hl2 Fw6
          go_loopw [25] (fun iv wr => ∃ t : Nat, iv = .int .i64 t ∧ t ≤ 5 ∧ Gr w6 wr) (fun iv _ => 5 - (intOf iv).toNat)
          case atStart => exact ⟨0, rfl, by decide, Fr.refl _ _⟩
          case round =>
            obtain ⟨t, rfl, ht, gt⟩ := hrel
            have GT := Lib.hid gt
            clear gt
            by_cases ht5 : t < 5
            · have d2 : decide ((t : Int) < 5) = true := decide_eq_true (by omega)
              have ST7 := Lib.hid (ST6.out.gr GT.out)
              have B7 := Lib.hid (blk_keep GT.out B6.out (fun h => h))
              have CA := Lib.hid (fun w (f : Gr wr w) => setHas_any (x i).x.x.aa (x i).x.x.ac (o i).h.v.act (o i).h.v.am ((t : Int) + 1) w ((ST7.out.gr f).row _ (HRN.out.ov i hi5 _ (at_ 1 rfl))) (HN2.out.ok i hi5).h.v.act)
              have CB := Lib.hid (fun w (f : Gr wr w) => setHas_any (x t).x.x.aa (x t).x.x.ac (o t).h.v.act (o t).h.v.am ((i : Int) + 1) w ((ST7.out.gr f).row _ (HRN.out.ov t ht5 _ (at_ 1 rfl))) (HN2.out.ok t ht5).h.v.act)
              have CW := Lib.hid (fun w (f : Gr wr w) => ovView_any (o t) (x t) dp ds W (fun _ => True) _ _ R (bo t) w ((show Sta W (fun _ => True) dp ds (opX q12 q7 q3 s0 s1 v bo ++ ovB 5 bo o x) (ownO (fun m => wn (m / 5) (m % 5)) v) R w from ST7.out.gr f).ovIn ht5 (HRN.out.ov t ht5)))
              have HR := Lib.hid (fun h1 h2 h3 => HN2.out.rest (i := i) (j := t) hi5 ht5 h1 h2 ((has_iff _ _).1 h3))
              obtain ⟨c1_, hc1⟩ : ∃ c, c = has (o i).h.v.act ((t : Int) + 1) := ⟨_, rfl⟩
              obtain ⟨c2_, hc2⟩ : ∃ c, c = has (o t).h.v.act ((i : Int) + 1) := ⟨_, rfl⟩
              rw [← hc1] at CA HR
              rw [← hc2] at CB
              have HC2 := Lib.hid hc2
              clear hc1 hc2
              obtain ⟨w1a, w1c, hv1_, hs1, -, -⟩ := SlA.of_own (ST7.out.ownAt _ (ownO_at wn v hi5 ht5))
              obtain ⟨w2a, w2c, hv2_, hs2, -, -⟩ := SlA.of_own (ST7.out.ownAt _ (ownO_at wn v ht5 hi5))
              have k1 := hs1.le
              have k2 := hs1.max
              have k3 := hs2.le
              have k4 := hs2.max
              have HV1 := Lib.hid hv1_
              have HV2 := Lib.hid hv2_
              clear hs1 hs2 hv1_ hv2_
              have HFD : ∀ w, Sem.run Tryz.prog (Instr.field 60 (.agg ((o t).h.v.arr (x t).x.x)) 1) w = .ok (.agg #[.slice (x t).x.x.aa (o t).h.v.act.length (x t).x.x.ac, .int .i64 (o t).h.v.am]) w := viewField _ _
              go_upto_region 50 with fail
              cases c1_
              case false =>
                haveI : Nonempty (WC (Gr wr)) := ⟨⟨wr, Fr.refl _ _⟩⟩
                have z1 : ∀ z2 : WC (Gr wr), z2.val.cell? ⟨q24, 1, none⟩ = some (.slice (x i).x.x.aa (o i).h.v.act.length (x i).x.x.ac) := fun z2 => z2.ok.cell ((by rw [Lib.cell_of_heap B7.out]; rfl)) (fun h => h)
                have z2 : ∀ z2 : WC (Gr wr), z2.val.cell? ⟨q24, 2, none⟩ = some (.int .i64 (o i).h.v.am) := fun z2 => z2.ok.cell ((by rw [Lib.cell_of_heap B7.out]; rfl)) (fun h => h)
                have z3 : ∀ z2 : WC (Gr wr), z2.val.cell? ⟨q7, t, none⟩ = some (.pointer (some ⟨bo t, 0, none⟩)) := fun z2 => z2.ok.cell ((ST7.out.cell 1 t rfl (ptrs_get ht5 ht5))) (fun h => h)
                have z5 : ∀ z2 : WC (Gr wr), z2.val.cell? ⟨q12, i * 5 + t, none⟩ = some (.slice w1a (wn i t).length w1c) := fun z2 => z2.ok.cell ((by rw [ST7.out.cell 0 (i * 5 + t) rfl (wsN_get v (by omega))]; exact congrArg some HV1.out)) (fun h => h)
                have z6 : ∀ z2 : WC (Gr wr), z2.val.cell? ⟨q12, t * 5 + i, none⟩ = some (.slice w2a (wn t i).length w2c) := fun z2 => z2.ok.cell ((by rw [ST7.out.cell 0 (t * 5 + i) rfl (wsN_get v (by omega))]; exact congrArg some HV2.out)) (fun h => h)
                refine wp_region_plan [4, 9, 13] (Plan.seq [0, 1, 2, 3, 4, 5, 6, 7, 8, 9, 10, 11, 12, 13, 14, 15, 16, 17, 18, 19, 20, 21, 22, 23, 24, 25, 26, 27, 28, 29, 30, 31] .done) (fun w' => ∃ z' : WC (Gr wr), w' = z'.val) (by kernel_rfl) (by kernel_rfl) (fun c a w d v h => by cases d <;> exact h) (fun c a w d v h => by cases d <;> exact h) ⟨⟨wr.drew, (Fr.refl _ _).drew⟩, rfl⟩ ?_
                simp only [Plan.seq, List.foldr]
                refine wpV_q (by simp only [List.getElem?_toArray, List.getElem?_cons_zero] <;> rfl) (by rfl) (by rfl) ?_
                go_big_quiet_step (fail)
                refine wpQuiet_nil ?_
                repeat (refine wpV_q (by simp only [List.getElem?_toArray, List.getElem?_cons_succ, List.getElem?_cons_zero] <;> rfl) (by rfl) (by rfl) ?_; go_big_quiet_step (fail); refine wpQuiet_nil ?_)
                refine wpV_e (by simp only [List.getElem?_toArray, List.getElem?_cons_succ, List.getElem?_cons_zero] <;> rfl) (by rfl) ?_
                go_wp2_with fail
                refine (CA.out _ (show Gr wr wr.drew from (Fr.refl _ _).drew)).mono ?_
                rintro e w7 ⟨rfl, f2⟩
                have Fw7 : Gr wr w7 := Gr.trans (show Gr wr wr.drew from (Fr.refl _ _).drew) f2
                go_wp2_with fail
                refine ⟨⟨⟨w7, Fw7⟩, rfl⟩, ?_⟩
                repeat (refine wpV_q (by simp only [List.getElem?_toArray, List.getElem?_cons_succ, List.getElem?_cons_zero] <;> rfl) (by rfl) (by rfl) ?_; go_big_quiet_step (fail); refine wpQuiet_nil ?_)
                refine wpV_e (by simp only [List.getElem?_toArray, List.getElem?_cons_succ, List.getElem?_cons_zero] <;> rfl) (by rfl) ?_
                go_wp2_with fail
                refine ⟨⟨⟨w7, Fw7⟩, rfl⟩, ?_⟩
                repeat (refine wpV_q (by simp only [List.getElem?_toArray, List.getElem?_cons_succ, List.getElem?_cons_zero] <;> rfl) (by rfl) (by rfl) ?_; go_big_quiet_step (fail); refine wpQuiet_nil ?_)
                refine wpV_e (by simp only [List.getElem?_toArray, List.getElem?_cons_succ, List.getElem?_cons_zero] <;> rfl) (by rfl) ?_
                go_wp2_with fail
                refine ⟨⟨⟨w7, Fw7⟩, rfl⟩, ?_⟩
                repeat (refine wpV_q (by simp only [List.getElem?_toArray, List.getElem?_cons_succ, List.getElem?_cons_zero] <;> rfl) (by rfl) (by rfl) ?_; go_big_quiet_step (fail); refine wpQuiet_nil ?_)
                clear f2
                refine wpV_done ?_
                have FZ := Lib.hid Fw7
                clear this z1 z2 z3 z5 z6
                go_wp2_with fail
                go_roundw
                case rel => exact ⟨t + 1, by go_num, ht5, Gr.trans GT.out FZ.out⟩
                case measure => simp [intOf]; omega
              case true =>
                cases c2_
                case true =>
                  haveI : Nonempty (WC (Gr wr)) := ⟨⟨wr, Fr.refl _ _⟩⟩
                  have z1 : ∀ z2 : WC (Gr wr), z2.val.cell? ⟨q24, 1, none⟩ = some (.slice (x i).x.x.aa (o i).h.v.act.length (x i).x.x.ac) := fun z2 => z2.ok.cell ((by rw [Lib.cell_of_heap B7.out]; rfl)) (fun h => h)
                  have z2 : ∀ z2 : WC (Gr wr), z2.val.cell? ⟨q24, 2, none⟩ = some (.int .i64 (o i).h.v.am) := fun z2 => z2.ok.cell ((by rw [Lib.cell_of_heap B7.out]; rfl)) (fun h => h)
                  have z3 : ∀ z2 : WC (Gr wr), z2.val.cell? ⟨q7, t, none⟩ = some (.pointer (some ⟨bo t, 0, none⟩)) := fun z2 => z2.ok.cell ((ST7.out.cell 1 t rfl (ptrs_get ht5 ht5))) (fun h => h)
                  have z5 : ∀ z2 : WC (Gr wr), z2.val.cell? ⟨q12, i * 5 + t, none⟩ = some (.slice w1a (wn i t).length w1c) := fun z2 => z2.ok.cell ((by rw [ST7.out.cell 0 (i * 5 + t) rfl (wsN_get v (by omega))]; exact congrArg some HV1.out)) (fun h => h)
                  have z6 : ∀ z2 : WC (Gr wr), z2.val.cell? ⟨q12, t * 5 + i, none⟩ = some (.slice w2a (wn t i).length w2c) := fun z2 => z2.ok.cell ((by rw [ST7.out.cell 0 (t * 5 + i) rfl (wsN_get v (by omega))]; exact congrArg some HV2.out)) (fun h => h)
                  refine wp_region_plan [4, 9, 13] (Plan.seq [0, 1, 2, 3, 4, 5, 6, 7, 8, 9, 10, 11, 12, 13, 14, 15, 16, 17, 18, 19, 20, 21, 22, 23, 24, 25, 26, 27, 28, 29, 30, 31] .done) (fun w' => ∃ z' : WC (Gr wr), w' = z'.val) (by kernel_rfl) (by kernel_rfl) (fun c a w d v h => by cases d <;> exact h) (fun c a w d v h => by cases d <;> exact h) ⟨⟨wr.drew, (Fr.refl _ _).drew⟩, rfl⟩ ?_
                  simp only [Plan.seq, List.foldr]
                  refine wpV_q (by simp only [List.getElem?_toArray, List.getElem?_cons_zero] <;> rfl) (by rfl) (by rfl) ?_
                  go_big_quiet_step (fail)
                  refine wpQuiet_nil ?_
                  repeat (refine wpV_q (by simp only [List.getElem?_toArray, List.getElem?_cons_succ, List.getElem?_cons_zero] <;> rfl) (by rfl) (by rfl) ?_; go_big_quiet_step (fail); refine wpQuiet_nil ?_)
                  refine wpV_e (by simp only [List.getElem?_toArray, List.getElem?_cons_succ, List.getElem?_cons_zero] <;> rfl) (by rfl) ?_
                  go_wp2_with fail
                  refine (CA.out _ (show Gr wr wr.drew from (Fr.refl _ _).drew)).mono ?_
                  rintro e w7 ⟨rfl, f2⟩
                  have Fw7 : Gr wr w7 := Gr.trans (show Gr wr wr.drew from (Fr.refl _ _).drew) f2
                  go_wp2_with fail
                  refine ⟨⟨⟨w7, Fw7⟩, rfl⟩, ?_⟩
                  repeat (refine wpV_q (by simp only [List.getElem?_toArray, List.getElem?_cons_succ, List.getElem?_cons_zero] <;> rfl) (by rfl) (by rfl) ?_; go_big_quiet_step (fail); refine wpQuiet_nil ?_)
                  refine wpV_e (by simp only [List.getElem?_toArray, List.getElem?_cons_succ, List.getElem?_cons_zero] <;> rfl) (by rfl) ?_
                  go_wp2_with fail
                  refine (CW.out _ Fw7).mono ?_
                  rintro e w8 ⟨rfl, f3⟩
                  have Fw8 : Gr wr w8 := Gr.trans Fw7 f3
                  go_wp2_with fail
                  refine ⟨⟨⟨w8, Fw8⟩, rfl⟩, ?_⟩
                  repeat (refine wpV_q (by simp only [List.getElem?_toArray, List.getElem?_cons_succ, List.getElem?_cons_zero] <;> rfl) (by rfl) (by rfl) ?_; go_big_quiet_step (fail); refine wpQuiet_nil ?_)
                  refine wpV_e (by simp only [List.getElem?_toArray, List.getElem?_cons_succ, List.getElem?_cons_zero] <;> rfl) (by rfl) ?_
                  go_wp2_with fail
                  refine (CB.out _ Fw8).mono ?_
                  rintro e w9 ⟨rfl, f4⟩
                  have Fw9 : Gr wr w9 := Gr.trans Fw8 f4
                  go_wp2_with fail
                  refine ⟨⟨⟨w9, Fw9⟩, rfl⟩, ?_⟩
                  repeat (refine wpV_q (by simp only [List.getElem?_toArray, List.getElem?_cons_succ, List.getElem?_cons_zero] <;> rfl) (by rfl) (by rfl) ?_; go_big_quiet_step (fail); refine wpQuiet_nil ?_)
                  clear f2 f3 f4 Fw7 Fw8
                  refine wpV_done ?_
                  have FZ := Lib.hid Fw9
                  clear this z1 z2 z3 z5 z6
                  go_wp2_with fail
                  go_roundw
                  case rel => exact ⟨t + 1, by go_num, ht5, Gr.trans GT.out FZ.out⟩
                  case measure => simp [intOf]; omega
                case false =>
                  have hz : ((((wn i t).length : Int) + ((wn t i).length : Int)) == 0) = false := by
                    simp
                    intro e
                    have h1 : (wn i t).length = 0 := by omega
                    have h2 : (wn t i).length = 0 := by omega
                    have h3 := HR.out (show tells wn i t = [] by unfold tells; rw [List.eq_nil_of_length_eq_zero h1]; rfl) (show tells wn t i = [] by unfold tells; rw [List.eq_nil_of_length_eq_zero h2]; rfl) rfl
                    have h4 := (has_iff _ _).2 h3
                    rw [← HC2.out] at h4
                    cases h4
                  have b1 := HLN2.out i t
                  have b2 := HLN2.out t i
                  haveI : Nonempty (WC (Gr wr)) := ⟨⟨wr, Fr.refl _ _⟩⟩
                  have z1 : ∀ z2 : WC (Gr wr), z2.val.cell? ⟨q24, 1, none⟩ = some (.slice (x i).x.x.aa (o i).h.v.act.length (x i).x.x.ac) := fun z2 => z2.ok.cell ((by rw [Lib.cell_of_heap B7.out]; rfl)) (fun h => h)
                  have z2 : ∀ z2 : WC (Gr wr), z2.val.cell? ⟨q24, 2, none⟩ = some (.int .i64 (o i).h.v.am) := fun z2 => z2.ok.cell ((by rw [Lib.cell_of_heap B7.out]; rfl)) (fun h => h)
                  have z3 : ∀ z2 : WC (Gr wr), z2.val.cell? ⟨q7, t, none⟩ = some (.pointer (some ⟨bo t, 0, none⟩)) := fun z2 => z2.ok.cell ((ST7.out.cell 1 t rfl (ptrs_get ht5 ht5))) (fun h => h)
                  have z5 : ∀ z2 : WC (Gr wr), z2.val.cell? ⟨q12, i * 5 + t, none⟩ = some (.slice w1a (wn i t).length w1c) := fun z2 => z2.ok.cell ((by rw [ST7.out.cell 0 (i * 5 + t) rfl (wsN_get v (by omega))]; exact congrArg some HV1.out)) (fun h => h)
                  have z6 : ∀ z2 : WC (Gr wr), z2.val.cell? ⟨q12, t * 5 + i, none⟩ = some (.slice w2a (wn t i).length w2c) := fun z2 => z2.ok.cell ((by rw [ST7.out.cell 0 (t * 5 + i) rfl (wsN_get v (by omega))]; exact congrArg some HV2.out)) (fun h => h)
                  refine wp_region_plan [4, 9, 13] (Plan.seq [0, 1, 2, 3, 4, 5, 6, 7, 8, 9, 10, 11, 12, 13, 14, 15, 16, 17, 18, 19, 20, 21, 22, 23, 24, 25, 26, 27, 28, 29, 30, 31] .done) (fun w' => ∃ z' : WC (Gr wr), w' = z'.val) (by kernel_rfl) (by kernel_rfl) (fun c a w d v h => by cases d <;> exact h) (fun c a w d v h => by cases d <;> exact h) ⟨⟨wr.drew, (Fr.refl _ _).drew⟩, rfl⟩ ?_
                  simp only [Plan.seq, List.foldr]
                  refine wpV_q (by simp only [List.getElem?_toArray, List.getElem?_cons_zero] <;> rfl) (by rfl) (by rfl) ?_
                  go_big_quiet_step (fail)
                  refine wpQuiet_nil ?_
                  repeat (refine wpV_q (by simp only [List.getElem?_toArray, List.getElem?_cons_succ, List.getElem?_cons_zero] <;> rfl) (by rfl) (by rfl) ?_; go_big_quiet_step (fail); refine wpQuiet_nil ?_)
                  refine wpV_e (by simp only [List.getElem?_toArray, List.getElem?_cons_succ, List.getElem?_cons_zero] <;> rfl) (by rfl) ?_
                  go_wp2_with fail
                  refine (CA.out _ (show Gr wr wr.drew from (Fr.refl _ _).drew)).mono ?_
                  rintro e w7 ⟨rfl, f2⟩
                  have Fw7 : Gr wr w7 := Gr.trans (show Gr wr wr.drew from (Fr.refl _ _).drew) f2
                  go_wp2_with fail
                  refine ⟨⟨⟨w7, Fw7⟩, rfl⟩, ?_⟩
                  repeat (refine wpV_q (by simp only [List.getElem?_toArray, List.getElem?_cons_succ, List.getElem?_cons_zero] <;> rfl) (by rfl) (by rfl) ?_; go_big_quiet_step (fail); refine wpQuiet_nil ?_)
                  refine wpV_e (by simp only [List.getElem?_toArray, List.getElem?_cons_succ, List.getElem?_cons_zero] <;> rfl) (by rfl) ?_
                  go_wp2_with fail
                  refine (CW.out _ Fw7).mono ?_
                  rintro e w8 ⟨rfl, f3⟩
                  have Fw8 : Gr wr w8 := Gr.trans Fw7 f3
                  go_wp2_with fail
                  refine ⟨⟨⟨w8, Fw8⟩, rfl⟩, ?_⟩
                  repeat (refine wpV_q (by simp only [List.getElem?_toArray, List.getElem?_cons_succ, List.getElem?_cons_zero] <;> rfl) (by rfl) (by rfl) ?_; go_big_quiet_step (fail); refine wpQuiet_nil ?_)
                  refine wpV_e (by simp only [List.getElem?_toArray, List.getElem?_cons_succ, List.getElem?_cons_zero] <;> rfl) (by rfl) ?_
                  go_wp2_with fail
                  refine (CB.out _ Fw8).mono ?_
                  rintro e w9 ⟨rfl, f4⟩
                  have Fw9 : Gr wr w9 := Gr.trans Fw8 f4
                  go_wp2_with fail
                  refine ⟨⟨⟨w9, Fw9⟩, rfl⟩, ?_⟩
                  repeat (refine wpV_q (by simp only [List.getElem?_toArray, List.getElem?_cons_succ, List.getElem?_cons_zero] <;> rfl) (by rfl) (by rfl) ?_; go_big_quiet_step (fail); refine wpQuiet_nil ?_)
                  clear f2 f3 f4 Fw7 Fw8
                  refine wpV_done ?_
                  have FZ := Lib.hid Fw9
                  clear this z1 z2 z3 z5 z6
                  go_wp2_with fail
                  go_roundw
                  case rel => exact ⟨t + 1, by go_num, ht5, Gr.trans GT.out FZ.out⟩
                  case measure => simp [intOf]; omega
            · obtain rfl : t = 5 := by omega
              go_wp2_with fail
              go_roundw
              case rel => exact ⟨i + 1, by go_num, hi5, Gr.trans G6.out GT.out⟩
              case measure => simp [intOf]; omega
        · obtain rfl : i = 5 := by omega
          go_wp2_with fail
          exact HK.out _ _ _ _ _ _ _ _ _ _ _ _ _ _ _ _ _ _ _ _ _ _ _ _ _ _ _ _ _ _ _ _ _ _ _ _ _ _ _ _ _ _ _ _ _ _ _ _ _ _ _ _ _ _ _ _ _ _ _ _ _ _ _ _ _ _ _ _ _ _ _ _ _ _ _ _ _ _ _ _ _ _ _ _ _ _ _ _ _ _ _ _ _ _ _ _ _ _ _ _ _ _ _ _ _ _ _ _ _ _ _ _ _ _ _ _ _ _ _ _ _ _ _ _ _ _ _ _ _ _ _ _ _ _ _ _ _ _ _ _ _ _ _ _ _ _ _ _ _ _ _ _ _ _ _ _ _ _ _ _ _ _ _ _ _ _ _ _ _ _ _ _ _ _ _ _ _ _ _ _ _ _ _ _ _ _ _ _ _ _ _ _ _ _ _ _ _ _ _ _ _ _ _ _ _ _ _ _ _ _ _ _ _ _ _ _ _ _ _ _ _ _ _ _ _ _ _ _ _ _ _ _ _ _ _ _ _ _ _ _ _ ⟨o, x, wn, v, ds, R, HN2.out, HLN2.out, HRN.out, HCH.out, ST1.out.gr GI.out⟩
set_option maxHeartbeats 16000000 in
set_option maxRecDepth 100000 in
theorem op_round {W : World} {q12 q7 q3 : Nat} {s0 s1 : Int} {dp : Value} {bo : Nat → Nat} {am pm : Int} {a1 : Option Addr} {c1 : Nat} {CH : List OCh} {k : Nat} {u0 u2 u4 u5 u8 u9 u10 u26 u27 u28 u29 u30 u31 u32 u33 u34 u35 u36 u37 u38 u39 u40 u41 u42 u43 u44 u45 u46 u47 u48 u49 u50 u51 u52 u53 u54 u55 : Value} {K N K2 : Act → World → Prop} {P : Ending → World → Prop} {wr : World} {u6 u14 u15 u16 u17 u18 u19 u20 u21 u22 u23 u24 u25 u56 u57 u58 u59 u60 u61 u62 u63 u64 u65 u66 u67 u68 u69 u70 u71 u72 u73 u74 u75 u76 u77 u78 u79 u80 u81 u82 u83 u84 u85 u86 u87 u88 u89 u90 u91 u92 u93 u94 u95 u96 u97 u98 u99 u100 u101 u102 u103 u104 u105 u106 u107 u108 u109 u110 u111 u112 u113 u114 u115 u116 u117 u118 u119 u120 u121 u122 u123 u124 u125 u126 u127 u128 u129 u130 u131 u132 u133 u134 u135 u136 u137 u138 u139 u140 u141 u142 u143 u144 u145 u146 u147 u148 u149 u150 u151 u152 u153 u154 u155 u156 u157 u158 u159 u160 u161 u162 u163 u164 u165 u166 u167 u168 u169 u170 u171 u172 u173 u174 u175 u176 u177 u178 u179 u180 u181 u182 u183 u184 u185 u186 u187 u188 u189 u190 u191 u192 u193 u194 u195 u196 u197 u198 u199 u200 u201 u202 u203 u204 u205 u206 u207 u208 u209 u210 u211 u212 u213 u214 u215 u216 u217 u218 u219 u220 u221 u222 u223 u224 u225 u226 u227 u228 u229 u230 u231 u232 u233 u234 u235 u236 u237 u238 u239 u240 u241 u242 u243 u244 u245 u246 u247 u248 u249 u250 u251 u252 u253 u254 u255 u256 u257 u258 u259 u260 u261 u262 u263 u264 u265 u266 u267 u268 u269 u270 u271 u272 u273 u274 u275 u276 u277 u278 u279 u280 u281 u282 : Value}
    (HK : Hid (OpK W q12 q7 q3 s0 s1 dp bo am pm a1 c1 CH k u0 u2 u4 u5 u8 u9 u10 u26 u27 u28 u29 u30 u31 u32 u33 u34 u35 u36 u37 u38 u39 u40 u41 u42 u43 u44 u45 u46 u47 u48 u49 u50 u51 u52 u53 u54 u55 K)) (hk2 : k < 200) (HR0 : Hid (∃ r, bits .and .u8 s0 1 = r ∧ 0 ≤ r ∧ r ≤ 1 ∧ am = 2 + r)) (HR1 : Hid (∃ r, bits .and .u8 s1 3 = r ∧ 0 ≤ r ∧ r ≤ 3 ∧ pm = 1 + r)) (HLO : Hid (∀ x ∈ CH, x.Ok)) (hkc : k < CH.length)
    (HS : Hid (OpSt W q12 q7 q3 s0 s1 dp bo am pm a1 c1 CH (70 * k) wr)) :
    Code.wp Tryz.prog (codeAt [1, 1, 1, 1, 1, 1, 0, 1, 0, 0, 1, 0, 0, 0] (Tryz.f4.body.getD .skip)) (Exit.then (fun a w => Code.wp Tryz.prog (codeAt [1, 1, 1, 1, 1, 1, 0, 1, 0, 0, 1, 0, 0, 1] (Tryz.f4.body.getD .skip)) (Exit.inBlock 3 (Exit.then K (Exit.then N (Exit.inBlock 2 (Exit.then K2 (bodyPost Tryz.prog Tryz.f4 P)))))) a w) (Exit.inBlock 3 (Exit.then K (Exit.then N (Exit.inBlock 2 (Exit.then K2 (bodyPost Tryz.prog Tryz.f4 P))))))) ⟨List.toArray (u0 :: .slice a1 CH.length c1 :: u2 :: .pointer (some ⟨q3, 0, none⟩) :: u4 :: u5 :: u6 :: .pointer (some ⟨q7, 0, none⟩) :: u8 :: u9 :: u10 :: dp :: .pointer (some ⟨q12, 0, none⟩) :: .int .i64 (k : Int) :: u14 :: u15 :: u16 :: u17 :: u18 :: u19 :: u20 :: u21 :: u22 :: u23 :: u24 :: u25 :: u26 :: u27 :: u28 :: u29 :: u30 :: u31 :: u32 :: u33 :: u34 :: u35 :: u36 :: u37 :: u38 :: u39 :: u40 :: u41 :: u42 :: u43 :: u44 :: u45 :: u46 :: u47 :: u48 :: u49 :: u50 :: u51 :: u52 :: u53 :: u54 :: u55 :: u56 :: u57 :: u58 :: u59 :: u60 :: u61 :: u62 :: u63 :: u64 :: u65 :: u66 :: u67 :: u68 :: u69 :: u70 :: u71 :: u72 :: u73 :: u74 :: u75 :: u76 :: u77 :: u78 :: u79 :: u80 :: u81 :: u82 :: u83 :: u84 :: u85 :: u86 :: u87 :: u88 :: u89 :: u90 :: u91 :: u92 :: u93 :: u94 :: u95 :: u96 :: u97 :: u98 :: u99 :: u100 :: u101 :: u102 :: u103 :: u104 :: u105 :: u106 :: u107 :: u108 :: u109 :: u110 :: u111 :: u112 :: u113 :: u114 :: u115 :: u116 :: u117 :: u118 :: u119 :: u120 :: u121 :: u122 :: u123 :: u124 :: u125 :: u126 :: u127 :: u128 :: u129 :: u130 :: u131 :: u132 :: u133 :: u134 :: u135 :: u136 :: u137 :: u138 :: u139 :: u140 :: u141 :: u142 :: u143 :: u144 :: u145 :: u146 :: u147 :: u148 :: u149 :: u150 :: u151 :: u152 :: u153 :: u154 :: u155 :: u156 :: u157 :: u158 :: u159 :: u160 :: u161 :: u162 :: u163 :: u164 :: u165 :: u166 :: u167 :: u168 :: u169 :: u170 :: u171 :: u172 :: u173 :: u174 :: u175 :: u176 :: u177 :: u178 :: u179 :: u180 :: u181 :: u182 :: u183 :: u184 :: u185 :: u186 :: u187 :: u188 :: u189 :: u190 :: u191 :: u192 :: u193 :: u194 :: u195 :: u196 :: u197 :: u198 :: u199 :: u200 :: u201 :: u202 :: u203 :: u204 :: u205 :: u206 :: u207 :: u208 :: u209 :: u210 :: u211 :: u212 :: u213 :: u214 :: u215 :: u216 :: u217 :: u218 :: u219 :: u220 :: u221 :: u222 :: u223 :: u224 :: u225 :: u226 :: u227 :: u228 :: u229 :: u230 :: u231 :: u232 :: u233 :: u234 :: u235 :: u236 :: u237 :: u238 :: u239 :: u240 :: u241 :: u242 :: u243 :: u244 :: u245 :: u246 :: u247 :: u248 :: u249 :: u250 :: u251 :: u252 :: u253 :: u254 :: u255 :: u256 :: u257 :: u258 :: u259 :: u260 :: u261 :: u262 :: u263 :: u264 :: u265 :: u266 :: u267 :: u268 :: u269 :: u270 :: u271 :: u272 :: u273 :: u274 :: u275 :: u276 :: u277 :: u278 :: u279 :: u280 :: u281 :: u282 :: []), []⟩ wr := by
  conv => arg 2; whnf
  obtain ⟨o, x, ws, v, ds, R, hn, hln, hrw, hch, st⟩ := HS.out
  have HN := Lib.hid hn
  have HLN := Lib.hid hln
  have HRW := Lib.hid hrw
  have HCH := Lib.hid hch
  have ST1 := Lib.hid st
  obtain ⟨bl, ol, rfl, hcW⟩ := SlA.elem (f := OCh.cells) (n := 3) (fun _ => rfl) (by decide) (st.row _ hch) k hkc
  have hOk := HLO.out _ (List.getElem_mem hkc)
  have m1 := (st.row _ hch).le
  have m2 := (st.row _ hch).max
  clear hn hln hrw hch st HS
  simp only at m1 m2
  have y0 := Lib.hid (hcW 0 _ rfl)
  have y1 : wr.cell? ⟨bl, ol + k * 3 + 1, none⟩ = some (.int .u8 CH[k].a) := hcW 1 _ rfl
  have y2 : wr.cell? ⟨bl, ol + k * 3 + 2, none⟩ = some (.int .u8 CH[k].b) := hcW 2 _ rfl
  have y0' := Lib.hid (show wr.cell? ⟨bl, ol + k * 3, none⟩ = some (.int .u8 CH[k].what) from hcW 0 _ rfl)
  clear hcW y0
  obtain ⟨⟨hw0, hw1⟩, ⟨ha0, ha1⟩, hb0, hb1⟩ := hOk
  generalize CH[k].what = cw at y0' hw0 hw1
  generalize CH[k].a = ca at y1 ha0 ha1
  generalize CH[k].b = cb at y2 hb0 hb1
  obtain ⟨a, hA, ha5⟩ : ∃ a : Nat, ca.tmod 5 = (a : Int) ∧ a < 5 := ⟨(ca.tmod 5).toNat, by have := Int.tmod_nonneg 5 ha0; have := Int.tmod_lt_of_pos ca (show (0 : Int) < 5 by decide); omega, by have := Int.tmod_nonneg 5 ha0; have := Int.tmod_lt_of_pos ca (show (0 : Int) < 5 by decide); omega⟩
  obtain ⟨b, hB, hb5⟩ : ∃ b : Nat, cb.tmod 5 = (b : Int) ∧ b < 5 := ⟨(cb.tmod 5).toNat, by have := Int.tmod_nonneg 5 hb0; have := Int.tmod_lt_of_pos cb (show (0 : Int) < 5 by decide); omega, by have := Int.tmod_nonneg 5 hb0; have := Int.tmod_lt_of_pos cb (show (0 : Int) < 5 by decide); omega⟩
  have hkc2 : (k : Int) < (CH.length : Int) := by omega
  go_upto_region 16 with fail
  go_quiet (fail)
  obtain ⟨w2, hw2⟩ : ∃ w2, w2 = wr.drewN nq := ⟨_, rfl⟩
  rw [← hw2]
  have y0 : w2.cell? ⟨bl, ol + k * 3, none⟩ = some (.int .u8 cw) := (show Gr wr w2 from hw2 ▸ (Fr.refl _ _).drewN nq).cell y0'.out (fun h => h)
  have ST2 := Lib.hid (show Sta W (fun _ => True) dp ds (⟨q12, wsN 25 v, 71⟩ :: ⟨q7, ptrs bo 5, 67⟩ :: ⟨q3, #[.int .u8 s0, .int .u8 s1], 65⟩ :: ovB 5 bo o x) (ownO (fun m => ws (m / 5) (m % 5)) v) (R) w2 from hw2 ▸ ST1.out.gr ((Fr.refl _ _).drewN nq))
  clear ST1 hw2 y1 y2 y0'
  go_wp2_with fail
  conv => arg 2; whnf
  obtain ⟨cm, hcm0, hc0, hc7⟩ := bits8 cw 7 (by decide)
  have hcm : bits .and .u8 cw 7 = cm := hcm0
  clear hcm0 hc0 hc7 hw0 hw1 ha0 ha1 hb0 hb1 hA hB
  go_upto_region 19 with fail
  cases e0 : (cm == 0)
  case true =>
    have y7 : w2.cell? ⟨q7, a, none⟩ = some (.pointer (some ⟨bo a, 0, none⟩)) := ST2.out.cell 1 a rfl (ptrs_get ha5 ha5)
    have CT := Lib.hid (ovTick_any (o a) (x a) dp ds W (fun _ => True) _ _ R (bo a) w2 ((show Sta W (fun _ => True) dp ds (opX q12 q7 q3 s0 s1 v bo ++ ovB 5 bo o x) (ownO (fun m => ws (m / 5) (m % 5)) v) R w2 from ST2.out).ovIn ha5 (HRW.out.ov a ha5)) (HN.out.ok a ha5))
    have HT := Lib.hid (HN.out.tick ha5 ST2.out.dr.range)
    have HF := Lib.hid (oFew (o a) ds)
    go_wp2_with fail
    refine CT.out.mono ?_
    rintro e w3 ⟨x', ov, l, hl, rfl, st⟩
    obtain ⟨ra, rc, rfl, st2⟩ := (st.ovOut ha5).asRow 0 rfl
    have HO := Lib.hid (op_put (K := 70 * k) HRW.out HCH.out ha5 HT.out.1 HT.out.2 HF.out HLN.out hl st2)
    clear st st2 hl CT y7
    go_upto_block 5 with fail
    refine wp_tail ?_ (by assumption)
    exact op_after HK hk2 HR0 HR1 HO
  case false =>
    by_cases hab : a = b
    · subst hab
      go_wp2_with fail
      exact HK.out _ _ _ _ _ _ _ _ _ _ _ _ _ _ _ _ _ _ _ _ _ _ _ _ _ _ _ _ _ _ _ _ _ _ _ _ _ _ _ _ _ _ _ _ _ _ _ _ _ _ _ _ _ _ _ _ _ _ _ _ _ _ _ _ _ _ _ _ _ _ _ _ _ _ _ _ _ _ _ _ _ _ _ _ _ _ _ _ _ _ _ _ _ _ _ _ _ _ _ _ _ _ _ _ _ _ _ _ _ _ _ _ _ _ _ _ _ _ _ _ _ _ _ _ _ _ _ _ _ _ _ _ _ _ _ _ _ _ _ _ _ _ _ _ _ _ _ _ _ _ _ _ _ _ _ _ _ _ _ _ _ _ _ _ _ _ _ _ _ _ _ _ _ _ _ _ _ _ _ _ _ _ _ _ _ _ _ _ _ _ _ _ _ _ _ _ _ _ _ _ _ _ _ _ _ _ _ _ _ _ _ _ _ _ _ _ _ _ _ _ _ _ _ _ _ _ _ _ _ _ _ _ _ _ _ _ _ _ _ _ _ ⟨o, x, ws, v, ds, R, HN.out, fun i j => Nat.le_trans (HLN.out i j) (by omega), HRW.out, HCH.out, ST2.out⟩
    have hab2 : ((a : Int) == (b : Int)) = false := by simp; omega
    cases e7 : (cm == 7)
    case true =>
      go_upto_region 23 with fail
      obtain ⟨wd, hwd⟩ : ∃ x, x = w2.drew := ⟨_, rfl⟩
      have HWD := Lib.hid hwd
      have ST3 := Lib.hid (show Sta W (fun _ => True) dp ds (⟨q12, wsN 25 v, 71⟩ :: ⟨q7, ptrs bo 5, 67⟩ :: ⟨q3, #[.int .u8 s0, .int .u8 s1], 65⟩ :: ovB 5 bo o x) (ownO (fun m => ws (m / 5) (m % 5)) v) (R) wd from hwd ▸ ST2.out.gr ((Fr.refl _ _).drew))
      clear ST2 hwd
      haveI : Nonempty (WC (fun _ => True)) := ⟨⟨wd, trivial⟩⟩
      refine wp_region_plan [5, 7, 10, 13] (Plan.seq [0, 1, 2, 3, 4, 6, 8, 11] (.fork 5 7 (.take 9 (.fork 10 7 (.take 7 (.take 12 (.take 13 .done))) (.take 10 (.take 12 (.take 13 .done))))) (.take 5 (.take 9 (.take 10 (.take 12 (.take 13 .done))))))) (fun w' => ∃ z : WC (fun _ => True), w' = z.val) (by kernel_rfl) (by kernel_rfl) (fun c a w d v h => by cases d <;> exact h) (fun c a w d v h => by cases d <;> exact h) (by rw [← HWD.out]; exact ⟨⟨wd, trivial⟩, rfl⟩) ?_
      rw [← HWD.out]
      clear HWD
      refine wpV_q (by simp only [List.getElem?_toArray, List.getElem?_cons_zero] <;> rfl) (by rfl) (by rfl) ?_
      go_big_quiet_step (fail)
      refine wpQuiet_nil ?_
      refine wpV_q (by simp only [List.getElem?_toArray, List.getElem?_cons_succ, List.getElem?_cons_zero] <;> rfl) (by rfl) (by rfl) ?_
      go_big_quiet_step (fail)
      refine wpQuiet_nil ?_
      refine wpV_q (by simp only [List.getElem?_toArray, List.getElem?_cons_succ, List.getElem?_cons_zero] <;> rfl) (by rfl) (by rfl) ?_
      go_big_quiet_step (fail)
      refine wpQuiet_nil ?_
      refine wpV_q (by simp only [List.getElem?_toArray, List.getElem?_cons_succ, List.getElem?_cons_zero] <;> rfl) (by rfl) (by rfl) ?_
      go_big_quiet_step (fail)
      refine wpQuiet_nil ?_
      refine wpV_q (by simp only [List.getElem?_toArray, List.getElem?_cons_succ, List.getElem?_cons_zero] <;> rfl) (by rfl) (by rfl) ?_
      go_big_quiet_step (fail)
      refine wpQuiet_nil ?_
      refine wpV_q (by simp only [List.getElem?_toArray, List.getElem?_cons_succ, List.getElem?_cons_zero] <;> rfl) (by rfl) (by rfl) ?_
      go_big_quiet_step (fail)
      refine wpQuiet_nil ?_
      refine wpV_q (by simp only [List.getElem?_toArray, List.getElem?_cons_succ, List.getElem?_cons_zero] <;> rfl) (by rfl) (by rfl) ?_
      go_big_quiet_step (fail)
      refine wpQuiet_nil ?_
      refine wpV_q (by simp only [List.getElem?_toArray, List.getElem?_cons_succ, List.getElem?_cons_zero] <;> rfl) (by rfl) (by rfl) ?_
      go_big_quiet_step (fail)
      refine wpQuiet_nil ?_
      refine wpV_fork (by simp only [List.getElem?_toArray, List.getElem?_cons_succ, List.getElem?_cons_zero] <;> rfl) (by simp only [List.getElem?_toArray, List.getElem?_cons_succ, List.getElem?_cons_zero] <;> rfl) ?_ ?_
      · go_wp2_with fail
        obtain ⟨wn1, hw_⟩ : ∃ x, x = wd.alloc (.cells #[.bool true, .int .i64 0, .int .i64 0, .int .i64 0, .bool false, .slice none 0 0, .slice none 0 0, .slice none 0 0] 78) := ⟨_, rfl⟩
        obtain ⟨n1, hob_⟩ : ∃ b, b = wd.heap.size := ⟨_, rfl⟩
        rw [← hw_, ← hob_]
        have ST4 := Lib.hid (show Sta W (fun _ => True) dp ds (⟨q12, wsN 25 v, 71⟩ :: ⟨q7, ptrs bo 5, 67⟩ :: ⟨q3, #[.int .u8 s0, .int .u8 s1], 65⟩ :: ovB 5 bo o x) (⟨78, 8, .slice (some ⟨n1, 0, none⟩) 1 1, 1, [.bool true, .int .i64 0, .int .i64 0, .int .i64 0, .bool false, .slice none 0 0, .slice none 0 0, .slice none 0 0]⟩ :: (ownO (fun m => ws (m / 5) (m % 5)) v)) (R) wn1 from hw_ ▸ ST3.out.ownNew ((Fr.refl _ _).alloc _) (xs := [.bool true, .int .i64 0, .int .i64 0, .int .i64 0, .bool false, .slice none 0 0, .slice none 0 0, .slice none 0 0]) (n := 1) (by rw [heap_alloc_if, if_pos hob_]) (Nat.le_of_eq hob_.symm) rfl (by decide))
        clear ST3 hw_ hob_
        refine ⟨⟨⟨wn1, trivial⟩, rfl⟩, ?_⟩
        refine wpV_q (by simp only [List.getElem?_toArray, List.getElem?_cons_succ, List.getElem?_cons_zero] <;> rfl) (by rfl) (by rfl) ?_
        go_big_quiet_step (fail)
        refine wpQuiet_nil ?_
        refine wpV_fork (by simp only [List.getElem?_toArray, List.getElem?_cons_succ, List.getElem?_cons_zero] <;> rfl) (by simp only [List.getElem?_toArray, List.getElem?_cons_succ, List.getElem?_cons_zero] <;> rfl) ?_ ?_
        · have zc : wn1.cell? ⟨q12, a * 5 + b, none⟩ = some (v (a * 5 + b)) := ST4.out.cell 0 _ rfl (wsN_get _ (by omega))
          have zf : wn1.frozen? ⟨q12, a * 5 + b, none⟩ = false := ST4.out.froz 0 _ rfl
          go_wp2_with fail
          clear zc zf
          obtain ⟨ws1, hw_⟩ : ∃ x, x = wn1.setCell ⟨q12, a * 5 + b, none⟩ (.slice (some ⟨n1, 0, none⟩) 1 1) := ⟨_, rfl⟩
          rw [← hw_]
          have ST5 := Lib.hid (show Sta W (fun _ => True) dp ds (⟨q12, wsN 25 (upd v (a * 5 + b) (.slice (some ⟨n1, 0, none⟩) 1 1)), 71⟩ :: ⟨q7, ptrs bo 5, 67⟩ :: ⟨q3, #[.int .u8 s0, .int .u8 s1], 65⟩ :: ovB 5 bo o x) (⟨78, 8, .slice (some ⟨n1, 0, none⟩) 1 1, 1, [.bool true, .int .i64 0, .int .i64 0, .int .i64 0, .bool false, .slice none 0 0, .slice none 0 0, .slice none 0 0]⟩ :: (ownO (fun m => ws (m / 5) (m % 5)) v)) (R) ws1 by
            rw [← wsN_put _ (show a * 5 + b < 25 by omega)]
            exact hw_ ▸ ST4.out.setC 0 rfl (a * 5 + b) (.slice (some ⟨n1, 0, none⟩) 1 1) (by rw [wsN_size]; omega))
          clear hw_ ST4
          refine ⟨⟨⟨ws1, trivial⟩, rfl⟩, ?_⟩
          refine wpV_e (by simp only [List.getElem?_toArray, List.getElem?_cons_succ, List.getElem?_cons_zero] <;> rfl) (by rfl) ?_
          go_wp2_with fail
          obtain ⟨wn2, hw_⟩ : ∃ x, x = ws1.alloc (.cells #[.bool true, .int .i64 0, .int .i64 0, .int .i64 0, .bool false, .slice none 0 0, .slice none 0 0, .slice none 0 0] 78) := ⟨_, rfl⟩
          obtain ⟨n2, hob_⟩ : ∃ b, b = ws1.heap.size := ⟨_, rfl⟩
          rw [← hw_, ← hob_]
          have ST6 := Lib.hid (show Sta W (fun _ => True) dp ds (⟨q12, wsN 25 (upd v (a * 5 + b) (.slice (some ⟨n1, 0, none⟩) 1 1)), 71⟩ :: ⟨q7, ptrs bo 5, 67⟩ :: ⟨q3, #[.int .u8 s0, .int .u8 s1], 65⟩ :: ovB 5 bo o x) (⟨78, 8, .slice (some ⟨n2, 0, none⟩) 1 1, 1, [.bool true, .int .i64 0, .int .i64 0, .int .i64 0, .bool false, .slice none 0 0, .slice none 0 0, .slice none 0 0]⟩ :: ⟨78, 8, .slice (some ⟨n1, 0, none⟩) 1 1, 1, [.bool true, .int .i64 0, .int .i64 0, .int .i64 0, .bool false, .slice none 0 0, .slice none 0 0, .slice none 0 0]⟩ :: (ownO (fun m => ws (m / 5) (m % 5)) v)) (R) wn2 from hw_ ▸ ST5.out.ownNew ((Fr.refl _ _).alloc _) (xs := [.bool true, .int .i64 0, .int .i64 0, .int .i64 0, .bool false, .slice none 0 0, .slice none 0 0, .slice none 0 0]) (n := 1) (by rw [heap_alloc_if, if_pos hob_]) (Nat.le_of_eq hob_.symm) rfl (by decide))
          clear ST5 hw_ hob_
          refine ⟨⟨⟨wn2, trivial⟩, rfl⟩, ?_⟩
          refine wpV_q (by simp only [List.getElem?_toArray, List.getElem?_cons_succ, List.getElem?_cons_zero] <;> rfl) (by rfl) (by rfl) ?_
          go_big_quiet_step (fail)
          refine wpQuiet_nil ?_
          refine wpV_e (by simp only [List.getElem?_toArray, List.getElem?_cons_succ, List.getElem?_cons_zero] <;> rfl) (by rfl) ?_
          have zc : wn2.cell? ⟨q12, b * 5 + a, none⟩ = some ((upd v (a * 5 + b) (.slice (some ⟨n1, 0, none⟩) 1 1)) (b * 5 + a)) := ST6.out.cell 0 _ rfl (wsN_get _ (by omega))
          have zf : wn2.frozen? ⟨q12, b * 5 + a, none⟩ = false := ST6.out.froz 0 _ rfl
          go_wp2_with fail
          clear zc zf
          obtain ⟨ws2, hw_⟩ : ∃ x, x = wn2.setCell ⟨q12, b * 5 + a, none⟩ (.slice (some ⟨n2, 0, none⟩) 1 1) := ⟨_, rfl⟩
          rw [← hw_]
          have ST7 := Lib.hid (show Sta W (fun _ => True) dp ds (⟨q12, wsN 25 (upd (upd v (a * 5 + b) (.slice (some ⟨n1, 0, none⟩) 1 1)) (b * 5 + a) (.slice (some ⟨n2, 0, none⟩) 1 1)), 71⟩ :: ⟨q7, ptrs bo 5, 67⟩ :: ⟨q3, #[.int .u8 s0, .int .u8 s1], 65⟩ :: ovB 5 bo o x) (⟨78, 8, .slice (some ⟨n2, 0, none⟩) 1 1, 1, [.bool true, .int .i64 0, .int .i64 0, .int .i64 0, .bool false, .slice none 0 0, .slice none 0 0, .slice none 0 0]⟩ :: ⟨78, 8, .slice (some ⟨n1, 0, none⟩) 1 1, 1, [.bool true, .int .i64 0, .int .i64 0, .int .i64 0, .bool false, .slice none 0 0, .slice none 0 0, .slice none 0 0]⟩ :: (ownO (fun m => ws (m / 5) (m % 5)) v)) (R) ws2 by
            rw [← wsN_put _ (show b * 5 + a < 25 by omega)]
            exact hw_ ▸ ST6.out.setC 0 rfl (b * 5 + a) (.slice (some ⟨n2, 0, none⟩) 1 1) (by rw [wsN_size]; omega))
          clear hw_ ST6
          refine ⟨⟨⟨ws2, trivial⟩, rfl⟩, ?_⟩
          refine wpV_done ?_
          clear this
          have HO := Lib.hid (op_cut (K := 70 * k) HRW.out HCH.out ha5 hab HN.out HLN.out ((ST7.out).way2O (l1 := [⟨true, ⟨0, 0, 0, false, []⟩, none, 0⟩]) (l2 := [⟨true, ⟨0, 0, 0, false, []⟩, none, 0⟩]) rfl rfl rfl rfl ha5 hb5 hb5 ha5))
          go_upto_block 5 with fail
          refine wp_tail ?_ (by assumption)
          exact op_after HK hk2 HR0 HR1 HO
        · go_wp2_with fail
          obtain ⟨wn2, hw_⟩ : ∃ x, x = wn1.alloc (.cells #[.bool true, .int .i64 0, .int .i64 0, .int .i64 0, .bool false, .slice none 0 0, .slice none 0 0, .slice none 0 0] 78) := ⟨_, rfl⟩
          obtain ⟨n2, hob_⟩ : ∃ b, b = wn1.heap.size := ⟨_, rfl⟩
          rw [← hw_, ← hob_]
          have ST5 := Lib.hid (show Sta W (fun _ => True) dp ds (⟨q12, wsN 25 v, 71⟩ :: ⟨q7, ptrs bo 5, 67⟩ :: ⟨q3, #[.int .u8 s0, .int .u8 s1], 65⟩ :: ovB 5 bo o x) (⟨78, 8, .slice (some ⟨n2, 0, none⟩) 1 1, 1, [.bool true, .int .i64 0, .int .i64 0, .int .i64 0, .bool false, .slice none 0 0, .slice none 0 0, .slice none 0 0]⟩ :: ⟨78, 8, .slice (some ⟨n1, 0, none⟩) 1 1, 1, [.bool true, .int .i64 0, .int .i64 0, .int .i64 0, .bool false, .slice none 0 0, .slice none 0 0, .slice none 0 0]⟩ :: (ownO (fun m => ws (m / 5) (m % 5)) v)) (R) wn2 from hw_ ▸ ST4.out.ownNew ((Fr.refl _ _).alloc _) (xs := [.bool true, .int .i64 0, .int .i64 0, .int .i64 0, .bool false, .slice none 0 0, .slice none 0 0, .slice none 0 0]) (n := 1) (by rw [heap_alloc_if, if_pos hob_]) (Nat.le_of_eq hob_.symm) rfl (by decide))
          clear ST4 hw_ hob_
          refine ⟨⟨⟨wn2, trivial⟩, rfl⟩, ?_⟩
          refine wpV_e (by simp only [List.getElem?_toArray, List.getElem?_cons_succ, List.getElem?_cons_zero] <;> rfl) (by rfl) ?_
          have zc : wn2.cell? ⟨q12, a * 5 + b, none⟩ = some (v (a * 5 + b)) := ST5.out.cell 0 _ rfl (wsN_get _ (by omega))
          have zf : wn2.frozen? ⟨q12, a * 5 + b, none⟩ = false := ST5.out.froz 0 _ rfl
          go_wp2_with fail
          clear zc zf
          obtain ⟨ws1, hw_⟩ : ∃ x, x = wn2.setCell ⟨q12, a * 5 + b, none⟩ (.slice (some ⟨n1, 0, none⟩) 1 1) := ⟨_, rfl⟩
          rw [← hw_]
          have ST6 := Lib.hid (show Sta W (fun _ => True) dp ds (⟨q12, wsN 25 (upd v (a * 5 + b) (.slice (some ⟨n1, 0, none⟩) 1 1)), 71⟩ :: ⟨q7, ptrs bo 5, 67⟩ :: ⟨q3, #[.int .u8 s0, .int .u8 s1], 65⟩ :: ovB 5 bo o x) (⟨78, 8, .slice (some ⟨n2, 0, none⟩) 1 1, 1, [.bool true, .int .i64 0, .int .i64 0, .int .i64 0, .bool false, .slice none 0 0, .slice none 0 0, .slice none 0 0]⟩ :: ⟨78, 8, .slice (some ⟨n1, 0, none⟩) 1 1, 1, [.bool true, .int .i64 0, .int .i64 0, .int .i64 0, .bool false, .slice none 0 0, .slice none 0 0, .slice none 0 0]⟩ :: (ownO (fun m => ws (m / 5) (m % 5)) v)) (R) ws1 by
            rw [← wsN_put _ (show a * 5 + b < 25 by omega)]
            exact hw_ ▸ ST5.out.setC 0 rfl (a * 5 + b) (.slice (some ⟨n1, 0, none⟩) 1 1) (by rw [wsN_size]; omega))
          clear hw_ ST5
          refine ⟨⟨⟨ws1, trivial⟩, rfl⟩, ?_⟩
          refine wpV_q (by simp only [List.getElem?_toArray, List.getElem?_cons_succ, List.getElem?_cons_zero] <;> rfl) (by rfl) (by rfl) ?_
          go_big_quiet_step (fail)
          refine wpQuiet_nil ?_
          refine wpV_e (by simp only [List.getElem?_toArray, List.getElem?_cons_succ, List.getElem?_cons_zero] <;> rfl) (by rfl) ?_
          have zc : ws1.cell? ⟨q12, b * 5 + a, none⟩ = some ((upd v (a * 5 + b) (.slice (some ⟨n1, 0, none⟩) 1 1)) (b * 5 + a)) := ST6.out.cell 0 _ rfl (wsN_get _ (by omega))
          have zf : ws1.frozen? ⟨q12, b * 5 + a, none⟩ = false := ST6.out.froz 0 _ rfl
          go_wp2_with fail
          clear zc zf
          obtain ⟨ws2, hw_⟩ : ∃ x, x = ws1.setCell ⟨q12, b * 5 + a, none⟩ (.slice (some ⟨n2, 0, none⟩) 1 1) := ⟨_, rfl⟩
          rw [← hw_]
          have ST7 := Lib.hid (show Sta W (fun _ => True) dp ds (⟨q12, wsN 25 (upd (upd v (a * 5 + b) (.slice (some ⟨n1, 0, none⟩) 1 1)) (b * 5 + a) (.slice (some ⟨n2, 0, none⟩) 1 1)), 71⟩ :: ⟨q7, ptrs bo 5, 67⟩ :: ⟨q3, #[.int .u8 s0, .int .u8 s1], 65⟩ :: ovB 5 bo o x) (⟨78, 8, .slice (some ⟨n2, 0, none⟩) 1 1, 1, [.bool true, .int .i64 0, .int .i64 0, .int .i64 0, .bool false, .slice none 0 0, .slice none 0 0, .slice none 0 0]⟩ :: ⟨78, 8, .slice (some ⟨n1, 0, none⟩) 1 1, 1, [.bool true, .int .i64 0, .int .i64 0, .int .i64 0, .bool false, .slice none 0 0, .slice none 0 0, .slice none 0 0]⟩ :: (ownO (fun m => ws (m / 5) (m % 5)) v)) (R) ws2 by
            rw [← wsN_put _ (show b * 5 + a < 25 by omega)]
            exact hw_ ▸ ST6.out.setC 0 rfl (b * 5 + a) (.slice (some ⟨n2, 0, none⟩) 1 1) (by rw [wsN_size]; omega))
          clear hw_ ST6
          refine ⟨⟨⟨ws2, trivial⟩, rfl⟩, ?_⟩
          refine wpV_done ?_
          clear this
          have HO := Lib.hid (op_cut (K := 70 * k) HRW.out HCH.out ha5 hab HN.out HLN.out ((ST7.out).way2O (l1 := [⟨true, ⟨0, 0, 0, false, []⟩, none, 0⟩]) (l2 := [⟨true, ⟨0, 0, 0, false, []⟩, none, 0⟩]) rfl rfl rfl rfl ha5 hb5 hb5 ha5))
          go_upto_block 5 with fail
          refine wp_tail ?_ (by assumption)
          exact op_after HK hk2 HR0 HR1 HO
      · go_wp2_with fail
        obtain ⟨wn2, hw_⟩ : ∃ x, x = wd.alloc (.cells #[.bool true, .int .i64 0, .int .i64 0, .int .i64 0, .bool false, .slice none 0 0, .slice none 0 0, .slice none 0 0] 78) := ⟨_, rfl⟩
        obtain ⟨n2, hob_⟩ : ∃ b, b = wd.heap.size := ⟨_, rfl⟩
        rw [← hw_, ← hob_]
        have ST4 := Lib.hid (show Sta W (fun _ => True) dp ds (⟨q12, wsN 25 v, 71⟩ :: ⟨q7, ptrs bo 5, 67⟩ :: ⟨q3, #[.int .u8 s0, .int .u8 s1], 65⟩ :: ovB 5 bo o x) (⟨78, 8, .slice (some ⟨n2, 0, none⟩) 1 1, 1, [.bool true, .int .i64 0, .int .i64 0, .int .i64 0, .bool false, .slice none 0 0, .slice none 0 0, .slice none 0 0]⟩ :: (ownO (fun m => ws (m / 5) (m % 5)) v)) (R) wn2 from hw_ ▸ ST3.out.ownNew ((Fr.refl _ _).alloc _) (xs := [.bool true, .int .i64 0, .int .i64 0, .int .i64 0, .bool false, .slice none 0 0, .slice none 0 0, .slice none 0 0]) (n := 1) (by rw [heap_alloc_if, if_pos hob_]) (Nat.le_of_eq hob_.symm) rfl (by decide))
        clear ST3 hw_ hob_
        refine ⟨⟨⟨wn2, trivial⟩, rfl⟩, ?_⟩
        refine wpV_e (by simp only [List.getElem?_toArray, List.getElem?_cons_succ, List.getElem?_cons_zero] <;> rfl) (by rfl) ?_
        go_wp2_with fail
        obtain ⟨wn1, hw_⟩ : ∃ x, x = wn2.alloc (.cells #[.bool true, .int .i64 0, .int .i64 0, .int .i64 0, .bool false, .slice none 0 0, .slice none 0 0, .slice none 0 0] 78) := ⟨_, rfl⟩
        obtain ⟨n1, hob_⟩ : ∃ b, b = wn2.heap.size := ⟨_, rfl⟩
        rw [← hw_, ← hob_]
        have ST5 := Lib.hid (show Sta W (fun _ => True) dp ds (⟨q12, wsN 25 v, 71⟩ :: ⟨q7, ptrs bo 5, 67⟩ :: ⟨q3, #[.int .u8 s0, .int .u8 s1], 65⟩ :: ovB 5 bo o x) (⟨78, 8, .slice (some ⟨n1, 0, none⟩) 1 1, 1, [.bool true, .int .i64 0, .int .i64 0, .int .i64 0, .bool false, .slice none 0 0, .slice none 0 0, .slice none 0 0]⟩ :: ⟨78, 8, .slice (some ⟨n2, 0, none⟩) 1 1, 1, [.bool true, .int .i64 0, .int .i64 0, .int .i64 0, .bool false, .slice none 0 0, .slice none 0 0, .slice none 0 0]⟩ :: (ownO (fun m => ws (m / 5) (m % 5)) v)) (R) wn1 from hw_ ▸ ST4.out.ownNew ((Fr.refl _ _).alloc _) (xs := [.bool true, .int .i64 0, .int .i64 0, .int .i64 0, .bool false, .slice none 0 0, .slice none 0 0, .slice none 0 0]) (n := 1) (by rw [heap_alloc_if, if_pos hob_]) (Nat.le_of_eq hob_.symm) rfl (by decide))
        clear ST4 hw_ hob_
        refine ⟨⟨⟨wn1, trivial⟩, rfl⟩, ?_⟩
        refine wpV_q (by simp only [List.getElem?_toArray, List.getElem?_cons_succ, List.getElem?_cons_zero] <;> rfl) (by rfl) (by rfl) ?_
        go_big_quiet_step (fail)
        refine wpQuiet_nil ?_
        refine wpV_e (by simp only [List.getElem?_toArray, List.getElem?_cons_succ, List.getElem?_cons_zero] <;> rfl) (by rfl) ?_
        have zc : wn1.cell? ⟨q12, a * 5 + b, none⟩ = some (v (a * 5 + b)) := ST5.out.cell 0 _ rfl (wsN_get _ (by omega))
        have zf : wn1.frozen? ⟨q12, a * 5 + b, none⟩ = false := ST5.out.froz 0 _ rfl
        go_wp2_with fail
        clear zc zf
        obtain ⟨ws1, hw_⟩ : ∃ x, x = wn1.setCell ⟨q12, a * 5 + b, none⟩ (.slice (some ⟨n1, 0, none⟩) 1 1) := ⟨_, rfl⟩
        rw [← hw_]
        have ST6 := Lib.hid (show Sta W (fun _ => True) dp ds (⟨q12, wsN 25 (upd v (a * 5 + b) (.slice (some ⟨n1, 0, none⟩) 1 1)), 71⟩ :: ⟨q7, ptrs bo 5, 67⟩ :: ⟨q3, #[.int .u8 s0, .int .u8 s1], 65⟩ :: ovB 5 bo o x) (⟨78, 8, .slice (some ⟨n1, 0, none⟩) 1 1, 1, [.bool true, .int .i64 0, .int .i64 0, .int .i64 0, .bool false, .slice none 0 0, .slice none 0 0, .slice none 0 0]⟩ :: ⟨78, 8, .slice (some ⟨n2, 0, none⟩) 1 1, 1, [.bool true, .int .i64 0, .int .i64 0, .int .i64 0, .bool false, .slice none 0 0, .slice none 0 0, .slice none 0 0]⟩ :: (ownO (fun m => ws (m / 5) (m % 5)) v)) (R) ws1 by
          rw [← wsN_put _ (show a * 5 + b < 25 by omega)]
          exact hw_ ▸ ST5.out.setC 0 rfl (a * 5 + b) (.slice (some ⟨n1, 0, none⟩) 1 1) (by rw [wsN_size]; omega))
        clear hw_ ST5
        refine ⟨⟨⟨ws1, trivial⟩, rfl⟩, ?_⟩
        refine wpV_q (by simp only [List.getElem?_toArray, List.getElem?_cons_succ, List.getElem?_cons_zero] <;> rfl) (by rfl) (by rfl) ?_
        go_big_quiet_step (fail)
        refine wpQuiet_nil ?_
        refine wpV_e (by simp only [List.getElem?_toArray, List.getElem?_cons_succ, List.getElem?_cons_zero] <;> rfl) (by rfl) ?_
        have zc : ws1.cell? ⟨q12, b * 5 + a, none⟩ = some ((upd v (a * 5 + b) (.slice (some ⟨n1, 0, none⟩) 1 1)) (b * 5 + a)) := ST6.out.cell 0 _ rfl (wsN_get _ (by omega))
        have zf : ws1.frozen? ⟨q12, b * 5 + a, none⟩ = false := ST6.out.froz 0 _ rfl
        go_wp2_with fail
        clear zc zf
        obtain ⟨ws2, hw_⟩ : ∃ x, x = ws1.setCell ⟨q12, b * 5 + a, none⟩ (.slice (some ⟨n2, 0, none⟩) 1 1) := ⟨_, rfl⟩
        rw [← hw_]
        have ST7 := Lib.hid (show Sta W (fun _ => True) dp ds (⟨q12, wsN 25 (upd (upd v (a * 5 + b) (.slice (some ⟨n1, 0, none⟩) 1 1)) (b * 5 + a) (.slice (some ⟨n2, 0, none⟩) 1 1)), 71⟩ :: ⟨q7, ptrs bo 5, 67⟩ :: ⟨q3, #[.int .u8 s0, .int .u8 s1], 65⟩ :: ovB 5 bo o x) (⟨78, 8, .slice (some ⟨n1, 0, none⟩) 1 1, 1, [.bool true, .int .i64 0, .int .i64 0, .int .i64 0, .bool false, .slice none 0 0, .slice none 0 0, .slice none 0 0]⟩ :: ⟨78, 8, .slice (some ⟨n2, 0, none⟩) 1 1, 1, [.bool true, .int .i64 0, .int .i64 0, .int .i64 0, .bool false, .slice none 0 0, .slice none 0 0, .slice none 0 0]⟩ :: (ownO (fun m => ws (m / 5) (m % 5)) v)) (R) ws2 by
          rw [← wsN_put _ (show b * 5 + a < 25 by omega)]
          exact hw_ ▸ ST6.out.setC 0 rfl (b * 5 + a) (.slice (some ⟨n2, 0, none⟩) 1 1) (by rw [wsN_size]; omega))
        clear hw_ ST6
        refine ⟨⟨⟨ws2, trivial⟩, rfl⟩, ?_⟩
        refine wpV_done ?_
        clear this
        have HO := Lib.hid (op_cut (K := 70 * k) HRW.out HCH.out ha5 hab HN.out HLN.out ((ST7.out.permL (List.Perm.swap _ _ _)).way2O (l1 := [⟨true, ⟨0, 0, 0, false, []⟩, none, 0⟩]) (l2 := [⟨true, ⟨0, 0, 0, false, []⟩, none, 0⟩]) rfl rfl rfl rfl ha5 hb5 hb5 ha5))
        go_upto_block 5 with fail
        refine wp_tail ?_ (by assumption)
        exact op_after HK hk2 HR0 HR1 HO
    case false =>
      have hm25 : a * 5 + b < 25 := by omega
      obtain ⟨wa, wc, hv, hsw, -, -⟩ := SlA.of_own (ST2.out.ownAt _ (ownO_at ws v ha5 hb5))
      have yv : w2.cell? ⟨q12, a * 5 + b, none⟩ = some (.slice wa (ws a b).length wc) := by rw [ST2.out.cell 0 (a * 5 + b) rfl (wsN_get v hm25)]; exact congrArg some hv
      have m3 := hsw.le
      have m4 := hsw.max
      by_cases hz : ws a b = []
      · have hz0 : (ws a b).length = 0 := by rw [hz]; rfl
        have hz2 : decide ((0 : Int) < ((ws a b).length : Int)) = false := decide_eq_false (by omega)
        have HO := Lib.hid (op_none (K := 70 * k) (a := a) HRW.out HCH.out ha5 HN.out (fun i j => Nat.le_trans (HLN.out i j) (by omega)) ST2.out)
        go_upto_block 5 with fail
        refine wp_tail ?_ (by assumption)
        exact op_after HK hk2 HR0 HR1 HO
      obtain ⟨y, t, hw⟩ : ∃ y t, ws a b = y :: t := List.exists_cons_of_ne_nil hz
      have hwl : (ws a b).length = t.length + 1 := by rw [hw]; rfl
      have hz2 : decide ((0 : Int) < ((ws a b).length : Int)) = true := decide_eq_true (by omega)
      have HTW := Lib.hid (show tells ws a b = y.tell :: t.map Ol.tell from by unfold tells; rw [hw]; rfl)
      have HMR := Lib.hid (show y.row ∈ R from HRW.out.way a b y (by rw [hw]; exact List.mem_cons_self))
      have HRW2 := Lib.hid (HRW.out.way2 (a := a) (b := b) (l := t) (fun y hy => HRW.out.way a b y (by rw [hw]; exact List.mem_cons_of_mem _ hy)) (fun _ h => h))
      have HPL := Lib.hid (upd2_len HLN.out (a := a) (b := b) (l := t) (by have := HLN.out a b; omega))
      rw [hw] at hsw
      obtain ⟨g, og, rfl, hc⟩ := SlA.elem (f := Ol.cells) (n := 8) (l := y :: t) (fun _ => rfl) (by decide) hsw 0 (by simp)
      obtain ⟨yb, ym, na, nc⟩ := y
      have HRG := Lib.hid (show w2.rangeAt g og [.bool yb, .int .i64 ym.kind, .int .i64 ym.node, .int .i64 ym.walk, .bool ym.high, .slice na ym.nodes.length nc, .slice none 0 0, .slice none 0 0] from fun j u hj => hc j u hj)
      have HW := Lib.hid hw
      clear hc hsw hz hw
      have HTF := Lib.hid (fun (w' : World) (ho : w'.ownsRow W.heap.size 78 8 (v (a * 5 + b)) (ws a b).length (ols (ws a b))) => show SlA w' (some ⟨g, og + 8, none⟩) t.length (wc - 1) (ols t) from by
        obtain ⟨a2, c2, hv2, hs2, -, -⟩ := SlA.of_own ho
        have hv3 := hv2.symm.trans hv
        injection hv3 with e1 e2 e3
        subst e1 e3
        rw [HW.out] at hs2
        exact hs2.tail8 rfl)
      have HV := Lib.hid hv
      clear hv
      obtain ⟨il, hl1, hl2, hl3⟩ := info_pair Tryz.zeroOpLetter
      go_upto_region 25 with fail
      go_wp2_with (first | refine wpList_load_mid (by rfl) 78 _ (by rfl) g og (by rfl) [.bool yb, .int .i64 ym.kind, .int .i64 ym.node, .int .i64 ym.walk, .bool ym.high, .slice na ym.nodes.length nc, .slice none 0 0, .slice none 0 0] _ HRG.out Tryz.underlying78 rfl Tryz.infoOpLetter2 ?_ | refine wpList_fresh (vs := #[.bool yb, .int .i64 ym.kind, .int .i64 ym.node, .int .i64 ym.walk, .bool ym.high, .slice na ym.nodes.length nc, .slice none 0 0, .slice none 0 0]) hl1 hl2 Tryz.infoOpLetter2 (by rfl) (by rw [← Array.all_toList]; rfl) (by rfl) (by rfl) ?_)
      intro w3 f3 b3 g3
      obtain ⟨q18, hq18⟩ : ∃ q, q = w2.heap.size := ⟨_, rfl⟩
      rw [← hq18] at b3 g3 ⊢
      have ST3 := Lib.hid (show Sta W (fun _ => True) dp ds (⟨q18, #[.bool yb, .int .i64 ym.kind, .int .i64 ym.node, .int .i64 ym.walk, .bool ym.high, .slice na ym.nodes.length nc, .slice none 0 0, .slice none 0 0], 78⟩ :: ⟨q12, wsN 25 v, 71⟩ :: ⟨q7, ptrs bo 5, 67⟩ :: ⟨q3, #[.int .u8 s0, .int .u8 s1], 65⟩ :: ovB 5 bo o x) (ownO (fun m => ws (m / 5) (m % 5)) v) (R) w3 from ST2.out.var f3 b3 (Nat.le_of_eq hq18.symm))
      clear ST2 f3 b3 g3 hq18 yv y0 HRG
      go_upto_region 26 with fail
      have HWL := Lib.hid hwl
      rw [hwl] at m3
      clear hwl hz2
      obtain ⟨ad, had1, had2⟩ : ∃ ad : Addr, (if wc = 1 then some (⟨g, og, none⟩ : Addr) else some ⟨g, og + 8, none⟩) = some ad ∧ ∀ w' : World, SlA w' (some ⟨g, og + 8, none⟩) t.length (wc - 1) (ols t) → ∀ j u, (ols t)[j]? = some u → w'.cell? (ad.add j) = some u := by
        by_cases h1 : wc = 1
        · refine ⟨⟨g, og, none⟩, by rw [if_pos h1], fun w' _ j u hj => ?_⟩
          have : t = [] := List.eq_nil_of_length_eq_zero (by omega)
          rw [this] at hj
          simp [ols] at hj
        · exact ⟨⟨g, og + 8, none⟩, by rw [if_neg h1], fun w' h => sla_add h⟩
      have HAD1 := Lib.hid had1
      have HAD2 := Lib.hid had2
      clear had1 had2
      obtain ⟨w4, hwd⟩ : ∃ x, x = w3.drew := ⟨_, rfl⟩
      have HWD := Lib.hid hwd
      have ST4 := Lib.hid (show Sta W (fun _ => True) dp ds (⟨q18, #[.bool yb, .int .i64 ym.kind, .int .i64 ym.node, .int .i64 ym.walk, .bool ym.high, .slice na ym.nodes.length nc, .slice none 0 0, .slice none 0 0], 78⟩ :: ⟨q12, wsN 25 v, 71⟩ :: ⟨q7, ptrs bo 5, 67⟩ :: ⟨q3, #[.int .u8 s0, .int .u8 s1], 65⟩ :: ovB 5 bo o x) (ownO (fun m => ws (m / 5) (m % 5)) v) (R) w4 from hwd ▸ ST3.out.gr ((Fr.refl _ _).drew))
      clear ST3 hwd
      haveI : Nonempty (WC (fun w => w.cell? ⟨q12, a * 5 + b, none⟩ = some (.slice (some ⟨g, og, none⟩) (t.length + 1) wc))) := ⟨⟨w4, (by rw [ST4.out.cell 1 (a * 5 + b) rfl (wsN_get v hm25), ← HWL.out]; exact congrArg some HV.out)⟩⟩
      have z0 : ∀ z : WC (fun w => w.cell? ⟨q12, a * 5 + b, none⟩ = some (.slice (some ⟨g, og, none⟩) (t.length + 1) wc)), z.val.cell? ⟨q12, a * 5 + b, none⟩ = some (.slice (some ⟨g, og, none⟩) (t.length + 1) wc) := fun z => z.ok
      refine wp_region_lastO 12 [2, 9] [] [0, 1, 2, 3, 4, 5, 6, 7, 8, 9, 10, 11] (fun w' => ∃ z : WC (fun w => w.cell? ⟨q12, a * 5 + b, none⟩ = some (.slice (some ⟨g, og, none⟩) (t.length + 1) wc)), w' = z.val) (by kernel_rfl) (by kernel_rfl) (fun c a w d v h => by cases d <;> exact h) (fun c a w d v h => by cases d <;> exact h) (by rw [← HWD.out]; exact ⟨⟨w4, (by rw [ST4.out.cell 1 (a * 5 + b) rfl (wsN_get v hm25), ← HWL.out]; exact congrArg some HV.out)⟩, rfl⟩) ?_
      rw [← HWD.out]
      clear HWD
      simp only [List.take]
      refine wpT_q (by simp only [List.getElem?_toArray, List.getElem?_cons_zero] <;> rfl) (by rfl) (by rfl) ?_
      go_big_quiet_step (fail)
      refine wpQuiet_nil ?_
      refine wpT_q (by simp only [List.getElem?_toArray, List.getElem?_cons_succ, List.getElem?_cons_zero] <;> rfl) (by rfl) (by rfl) ?_
      go_big_quiet_step (fail)
      refine wpQuiet_nil ?_
      refine wpT_e (by simp only [List.getElem?_toArray, List.getElem?_cons_succ, List.getElem?_cons_zero] <;> rfl) (by rfl) ?_
      go_wp2_with fail
      obtain ⟨w5, hw_⟩ : ∃ x, x = w4.alloc (.cells #[] 78) := ⟨_, rfl⟩
      obtain ⟨nb, hob_⟩ : ∃ b, b = w4.heap.size := ⟨_, rfl⟩
      rw [← hw_, ← hob_]
      have ST5 := Lib.hid (show Sta W (fun _ => True) dp ds (⟨q18, #[.bool yb, .int .i64 ym.kind, .int .i64 ym.node, .int .i64 ym.walk, .bool ym.high, .slice na ym.nodes.length nc, .slice none 0 0, .slice none 0 0], 78⟩ :: ⟨q12, wsN 25 v, 71⟩ :: ⟨q7, ptrs bo 5, 67⟩ :: ⟨q3, #[.int .u8 s0, .int .u8 s1], 65⟩ :: ovB 5 bo o x) (⟨78, 8, .slice (some ⟨nb, 0, none⟩) 0 0, 0, []⟩ :: (ownO (fun m => ws (m / 5) (m % 5)) v)) (R) w5 from hw_ ▸ ST4.out.ownNew ((Fr.refl _ _).alloc _) (xs := []) (n := 0) (by rw [heap_alloc_if, if_pos hob_]) (Nat.le_of_eq hob_.symm) rfl (by decide))
      clear ST4 hw_ hob_
      refine ⟨⟨⟨w5, (by rw [ST5.out.cell 1 (a * 5 + b) rfl (wsN_get v hm25), ← HWL.out]; exact congrArg some HV.out)⟩, rfl⟩, ?_⟩
      refine wpT_q (by simp only [List.getElem?_toArray, List.getElem?_cons_succ, List.getElem?_cons_zero] <;> rfl) (by rfl) (by rfl) ?_
      go_big_quiet_step (fail)
      refine wpQuiet_nil ?_
      refine wpT_q (by simp only [List.getElem?_toArray, List.getElem?_cons_succ, List.getElem?_cons_zero] <;> rfl) (by rfl) (by rfl) ?_
      go_big_quiet_step (fail)
      refine wpQuiet_nil ?_
      refine wpT_q (by simp only [List.getElem?_toArray, List.getElem?_cons_succ, List.getElem?_cons_zero] <;> rfl) (by rfl) (by rfl) ?_
      go_big_quiet_step (fail)
      refine wpQuiet_nil ?_
      refine wpT_q (by simp only [List.getElem?_toArray, List.getElem?_cons_succ, List.getElem?_cons_zero] <;> rfl) (by rfl) (by rfl) ?_
      go_big_quiet_step (fail)
      refine wpQuiet_nil ?_
      refine wpT_q (by simp only [List.getElem?_toArray, List.getElem?_cons_succ, List.getElem?_cons_zero] <;> rfl) (by rfl) (by rfl) ?_
      go_big_quiet_step (fail)
      refine wpQuiet_nil ?_
      refine wpT_q (by simp only [List.getElem?_toArray, List.getElem?_cons_succ, List.getElem?_cons_zero] <;> rfl) (by rfl) (by rfl) ?_
      go_big_quiet_step (fail)
      refine wpQuiet_nil ?_
      refine wpT_e (by simp only [List.getElem?_toArray, List.getElem?_cons_succ, List.getElem?_cons_zero] <;> rfl) (by rfl) ?_
      refine wpList_growT (by rfl) _ _ 69 78 8 112 (.agg #[.bool false, .int .i64 0, .int .i64 0, .int .i64 0, .bool false, .slice none 0 0, .slice none 0 0, .slice none 0 0]) Tryz.underlying69 Tryz.infoOpLetter rfl (by decide) (by decide) (by rfl) ST5.out 0 rfl (ad := ad) (m := t.length) (c := wc - 1) (by rw [← HAD1.out]; rfl) (ols_len t) (HAD2.out _ (HTF.out _ (ST5.out.ownAt (a * 5 + b + 1) (by rw [List.getElem?_cons_succ]; exact ownO_at ws v ha5 hb5)))) (by rfl) (ols_one t) (by have h1 := HLN.out a b; have h2 := HWL.out; omega) ?_
      intro v7 w6 hst
      refine wpList_nil ?_
      have ST6 := Lib.hid (show Sta W (fun _ => True) dp ds (⟨q18, #[.bool yb, .int .i64 ym.kind, .int .i64 ym.node, .int .i64 ym.walk, .bool ym.high, .slice na ym.nodes.length nc, .slice none 0 0, .slice none 0 0], 78⟩ :: ⟨q12, wsN 25 v, 71⟩ :: ⟨q7, ptrs bo 5, 67⟩ :: ⟨q3, #[.int .u8 s0, .int .u8 s1], 65⟩ :: ovB 5 bo o x) (⟨78, 8, v7, t.length, ols t⟩ :: (ownO (fun m => ws (m / 5) (m % 5)) v)) (R) w6 by rw [List.set_cons_zero, Nat.zero_add, List.nil_append] at hst; exact hst)
      clear hst ST5
      refine ⟨⟨⟨w6, (by rw [ST6.out.cell 1 (a * 5 + b) rfl (wsN_get v hm25), ← HWL.out]; exact congrArg some HV.out)⟩, rfl⟩, ?_⟩
      simp only [Act.put, List.setIfInBounds_toArray, List.set_cons_succ, List.set_cons_zero]
      rw [HAD1.out]
      refine wpT_q (by simp only [List.getElem?_toArray, List.getElem?_cons_succ, List.getElem?_cons_zero] <;> rfl) (by rfl) (by rfl) ?_
      go_big_quiet_step (fail)
      refine wpQuiet_nil ?_
      refine wpT_q (by simp only [List.getElem?_toArray, List.getElem?_cons_succ, List.getElem?_cons_zero] <;> rfl) (by rfl) (by rfl) ?_
      go_big_quiet_step (fail)
      refine wpQuiet_nil ?_
      clear this z0
      refine wpT_nil ?_
      simp only [lastQ, List.drop]
      obtain ⟨a7, c7, hv7, -, -, -⟩ := SlA.of_own (ST6.out.ownAt 0 rfl)
      subst hv7
      have zc : w6.cell? ⟨q12, a * 5 + b, none⟩ = some (v (a * 5 + b)) := ST6.out.cell 1 _ rfl (wsN_get _ (by omega))
      have zf : w6.frozen? ⟨q12, a * 5 + b, none⟩ = false := ST6.out.froz 1 _ rfl
      go_upto_region 27 with fail
      clear zc zf
      obtain ⟨w7, hw_⟩ : ∃ x, x = w6.setCell ⟨q12, a * 5 + b, none⟩ (.slice a7 t.length c7) := ⟨_, rfl⟩
      rw [← hw_]
      have ST7 := Lib.hid (show Sta W (fun _ => True) dp ds (⟨q18, #[.bool yb, .int .i64 ym.kind, .int .i64 ym.node, .int .i64 ym.walk, .bool ym.high, .slice na ym.nodes.length nc, .slice none 0 0, .slice none 0 0], 78⟩ :: ⟨q12, wsN 25 (upd v (a * 5 + b) (.slice a7 t.length c7)), 71⟩ :: ⟨q7, ptrs bo 5, 67⟩ :: ⟨q3, #[.int .u8 s0, .int .u8 s1], 65⟩ :: ovB 5 bo o x) (⟨78, 8, .slice a7 t.length c7, t.length, ols t⟩ :: (ownO (fun m => ws (m / 5) (m % 5)) v)) (R) w7 by
        rw [← wsN_put _ (show a * 5 + b < 25 by omega)]
        exact hw_ ▸ ST6.out.setC 1 rfl (a * 5 + b) (.slice a7 t.length c7) (by rw [wsN_size]; omega))
      clear hw_ ST6
      have ST8 := Lib.hid (show Sta W (fun _ => True) dp ds (⟨q18, #[.bool yb, .int .i64 ym.kind, .int .i64 ym.node, .int .i64 ym.walk, .bool ym.high, .slice na ym.nodes.length nc, .slice none 0 0, .slice none 0 0], 78⟩ :: ⟨q12, wsN 25 (upd v (a * 5 + b) (.slice a7 t.length c7)), 71⟩ :: ⟨q7, ptrs bo 5, 67⟩ :: ⟨q3, #[.int .u8 s0, .int .u8 s1], 65⟩ :: ovB 5 bo o x) (ownO (fun m => upd2 ws a b t (m / 5) (m % 5)) (upd v (a * 5 + b) (.slice a7 t.length c7))) (R) w7 from ST7.out.wayO (l := t) rfl rfl ha5 hb5)
      clear HTF HV HWL HAD1 HAD2 ST7
      obtain ⟨v2, hv2⟩ : ∃ v2, v2 = upd v (a * 5 + b) (.slice a7 t.length c7) := ⟨_, rfl⟩
      rw [← hv2] at ST8
      clear hv2 hm25 m3 m4
      have c0 : w7.cell? ⟨q18, 0, none⟩ = some (.bool yb) := ST8.out.cell 0 0 rfl rfl
      cases yb
      case true =>
        have y7 : w7.cell? ⟨q7, b, none⟩ = some (.pointer (some ⟨bo b, 0, none⟩)) := ST8.out.cell 2 b rfl (ptrs_get hb5 hb5)
        have CB := Lib.hid (ovBroke_any (o b) (x b) ((a : Int) + 1) dp ds W (fun _ => True) _ _ R (bo b) w7 ((show Sta W (fun _ => True) dp ds ((⟨q18, #[.bool true, .int .i64 ym.kind, .int .i64 ym.node, .int .i64 ym.walk, .bool ym.high, .slice na ym.nodes.length nc, .slice none 0 0, .slice none 0 0], 78⟩ :: opX q12 q7 q3 s0 s1 v2 bo) ++ ovB 5 bo o x) (ownO (fun m => upd2 ws a b t (m / 5) (m % 5)) v2) R w7 from ST8.out).ovIn hb5 (HRW.out.ov b hb5)) (HN.out.ok b hb5))
        go_wp2_with fail
        refine CB.out.mono ?_
        rintro e w9 ⟨rfl, x', st⟩
        have HO := Lib.hid (op_mute (K := 70 * k) HRW2.out HCH.out hb5 (by rw [tells_upd]; exact HN.out.broke ha5 hb5 hab HTW.out) (fun i j => Nat.le_trans (HPL.out i j) (by omega)) ((st.ovOut hb5).lessB (List.Sublist.cons _ (List.Sublist.refl _))))
        clear st CB y7 c0
        go_upto_block 5 with fail
        refine wp_tail ?_ (by assumption)
        exact op_after HK hk2 HR0 HR1 HO
      case false =>
        have HM := Lib.hid (HN.out.msg a ha5 b hb5 ym (show some ym ∈ tells ws a b by rw [HTW.out]; exact List.mem_cons_self))
        have HT := Lib.hid (HN.out.take ha5 hb5 hab (m := ym) HTW.out ST8.out.dr.range)
        have HF := Lib.hid (oFewT (show (oTake (o b) ((a : Int) + 1) ym ds).1.h.v.act.length ≤ 64 from by
          have h : (upd o b (oTake (o b) ((a : Int) + 1) ym ds).1 b).Ok := HT.out.1.ok b hb5
          rw [upd_same] at h
          exact h.h.v.act.len))
        go_upto_region 30 with fail
        clear c0
        obtain ⟨wd, hwd⟩ : ∃ x, x = w7.drew := ⟨_, rfl⟩
        have HWD := Lib.hid hwd
        have ST9 := Lib.hid (show Sta W (fun _ => True) dp ds (⟨q18, #[.bool false, .int .i64 ym.kind, .int .i64 ym.node, .int .i64 ym.walk, .bool ym.high, .slice na ym.nodes.length nc, .slice none 0 0, .slice none 0 0], 78⟩ :: ⟨q12, wsN 25 v2, 71⟩ :: ⟨q7, ptrs bo 5, 67⟩ :: ⟨q3, #[.int .u8 s0, .int .u8 s1], 65⟩ :: ovB 5 bo o x) (ownO (fun m => upd2 ws a b t (m / 5) (m % 5)) v2) (R) wd from hwd ▸ ST8.out.gr ((Fr.refl _ _).drew))
        clear ST8 hwd
        haveI : Nonempty (WC (fun w => w.heap[q18]? = some (.cells (#[.bool false, .int .i64 ym.kind, .int .i64 ym.node, .int .i64 ym.walk, .bool ym.high, .slice na ym.nodes.length nc, .slice none 0 0, .slice none 0 0]) 78 (0, 0)) ∧ w.cell? ⟨q7, b, none⟩ = some (.pointer (some ⟨bo b, 0, none⟩)))) := ⟨⟨wd, ⟨ST9.out.blkAt 0 rfl, (ST9.out.cell 2 b rfl (ptrs_get hb5 hb5))⟩⟩⟩
        have z7 : ∀ z : WC (fun w => w.heap[q18]? = some (.cells (#[.bool false, .int .i64 ym.kind, .int .i64 ym.node, .int .i64 ym.walk, .bool ym.high, .slice na ym.nodes.length nc, .slice none 0 0, .slice none 0 0]) 78 (0, 0)) ∧ w.cell? ⟨q7, b, none⟩ = some (.pointer (some ⟨bo b, 0, none⟩))), z.val.cell? ⟨q7, b, none⟩ = some (.pointer (some ⟨bo b, 0, none⟩)) := fun z => z.ok.2
        refine wp_region_plan [8] (Plan.seq [0, 1, 2, 3, 4, 5, 6, 7, 8, 9] .done) (fun w' => ∃ z : WC (fun w => w.heap[q18]? = some (.cells (#[.bool false, .int .i64 ym.kind, .int .i64 ym.node, .int .i64 ym.walk, .bool ym.high, .slice na ym.nodes.length nc, .slice none 0 0, .slice none 0 0]) 78 (0, 0)) ∧ w.cell? ⟨q7, b, none⟩ = some (.pointer (some ⟨bo b, 0, none⟩))), w' = z.val) (by kernel_rfl) (by kernel_rfl) (fun c a w d v h => by cases d <;> exact h) (fun c a w d v h => by cases d <;> exact h) (by rw [← HWD.out]; exact ⟨⟨wd, ⟨ST9.out.blkAt 0 rfl, (ST9.out.cell 2 b rfl (ptrs_get hb5 hb5))⟩⟩, rfl⟩) ?_
        rw [← HWD.out]
        clear HWD
        have CT := Lib.hid (ovTake_any (o b) (x b) ((a : Int) + 1) ym na nc dp ds W (fun _ => True) _ _ R (bo b) wd ((show Sta W (fun _ => True) dp ds ((⟨q18, #[.bool false, .int .i64 ym.kind, .int .i64 ym.node, .int .i64 ym.walk, .bool ym.high, .slice na ym.nodes.length nc, .slice none 0 0, .slice none 0 0], 78⟩ :: opX q12 q7 q3 s0 s1 v2 bo) ++ ovB 5 bo o x) (ownO (fun m => upd2 ws a b t (m / 5) (m % 5)) v2) R wd from ST9.out).ovIn hb5 (HRW.out.ov b hb5)) (HN.out.ok b hb5) HMR.out (by have := HM.out.walk; omega) (by have := HM.out.len; omega))
        refine wpV_q (by simp only [List.getElem?_toArray, List.getElem?_cons_zero] <;> rfl) (by rfl) (by rfl) ?_
        go_big_quiet_step (fail)
        refine wpQuiet_nil ?_
        refine wpV_q (by simp only [List.getElem?_toArray, List.getElem?_cons_succ, List.getElem?_cons_zero] <;> rfl) (by rfl) (by rfl) ?_
        go_big_quiet_step (fail)
        refine wpQuiet_nil ?_
        refine wpV_q (by simp only [List.getElem?_toArray, List.getElem?_cons_succ, List.getElem?_cons_zero] <;> rfl) (by rfl) (by rfl) ?_
        go_big_quiet_step (fail)
        refine wpQuiet_nil ?_
        refine wpV_q (by simp only [List.getElem?_toArray, List.getElem?_cons_succ, List.getElem?_cons_zero] <;> rfl) (by rfl) (by rfl) ?_
        go_big_quiet_step (fail)
        refine wpQuiet_nil ?_
        refine wpV_q (by simp only [List.getElem?_toArray, List.getElem?_cons_succ, List.getElem?_cons_zero] <;> rfl) (by rfl) (by rfl) ?_
        go_big_quiet_step (fail)
        refine wpQuiet_nil ?_
        refine wpV_q (by simp only [List.getElem?_toArray, List.getElem?_cons_succ, List.getElem?_cons_zero] <;> rfl) (by rfl) (by rfl) ?_
        go_big_quiet_step (fail)
        refine wpQuiet_nil ?_
        refine wpV_q (by simp only [List.getElem?_toArray, List.getElem?_cons_succ, List.getElem?_cons_zero] <;> rfl) (by rfl) (by rfl) ?_
        refine wpQuiet_loadH (by rfl) 76 _ (by rfl) q18 1 (by rfl) (Array.toList (#[.int .i64 ym.kind, .int .i64 ym.node, .int .i64 ym.walk, .bool ym.high, .slice na ym.nodes.length nc, .slice none 0 0, .slice none 0 0])) _ (fun w ⟨z, hz⟩ => hz ▸ rangeIn z.ok.1 1 (by rfl)) Tryz.underlying76 rfl Tryz.infoMsg7 ?_
        refine wpQuiet_nil ?_
        simp only [Act.put, List.setIfInBounds_toArray, List.set_cons_succ, List.set_cons_zero]
        refine wpV_q (by simp only [List.getElem?_toArray, List.getElem?_cons_succ, List.getElem?_cons_zero] <;> rfl) (by rfl) (by rfl) ?_
        go_big_quiet_step (fail)
        refine wpQuiet_nil ?_
        refine wpV_e (by simp only [List.getElem?_toArray, List.getElem?_cons_succ, List.getElem?_cons_zero] <;> rfl) (by rfl) ?_
        go_wp2_with fail
        refine CT.out.mono ?_
        rintro e w9 ⟨x', ov, l, hl, rfl, st⟩
        obtain ⟨ra, rc, rfl, st2⟩ := (st.ovOut hb5).asRow 0 rfl
        have ST10 := Lib.hid (show Sta W (fun _ => True) dp (oTake (o b) ((a : Int) + 1) ym ds).2.2 (⟨q18, #[.bool false, .int .i64 ym.kind, .int .i64 ym.node, .int .i64 ym.walk, .bool ym.high, .slice na ym.nodes.length nc, .slice none 0 0, .slice none 0 0], 78⟩ :: ⟨q12, wsN 25 v2, 71⟩ :: ⟨q7, ptrs bo 5, 67⟩ :: ⟨q3, #[.int .u8 s0, .int .u8 s1], 65⟩ :: ovB 5 bo (upd o b (oTake (o b) ((a : Int) + 1) ym ds).1) (upd x b x')) (ownO (fun m => upd2 ws a b t (m / 5) (m % 5)) v2) (⟨ra, l.length, rc, oms l⟩ :: (l.map Om.row ++ orows (oTake (o b) ((a : Int) + 1) ym ds).1 x' R)) w9 from st2)
        clear st st2 CT ST9
        go_wp2_with fail
        refine ⟨⟨⟨w9, ⟨ST10.out.blkAt 0 rfl, (ST10.out.cell 2 b rfl (ptrs_get hb5 hb5))⟩⟩, rfl⟩, ?_⟩
        refine wpV_q (by simp only [List.getElem?_toArray, List.getElem?_cons_succ, List.getElem?_cons_zero] <;> rfl) (by rfl) (by rfl) ?_
        go_big_quiet_step (fail)
        refine wpQuiet_nil ?_
        refine wpV_done ?_
        clear z7 this
        have HO := Lib.hid (op_put (K := 70 * k) HRW2.out HCH.out hb5 (by rw [tells_upd]; exact HT.out.1) HT.out.2 HF.out HPL.out hl (ST10.out.lessB (List.Sublist.cons _ (List.Sublist.refl _))))
        go_upto_block 5 with fail
        refine wp_tail ?_ (by assumption)
        exact op_after HK hk2 HR0 HR1 HO
end Go.Proofs.YtelepohdfcjnfaaGreat
