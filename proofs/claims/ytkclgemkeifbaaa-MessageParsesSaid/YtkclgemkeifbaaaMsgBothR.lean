/-
  One round of the third loop of both (printed by gen_both3.py), a declaration of its own: else the proof is too great.
-/
import Derived.Test.YtkclgemkeifbaaaMsgBothA
import Derived.Deep.CutBlock
import Derived.Deep.CutRange
namespace Go.Proofs.Ytkclgemkeifbaaa
open Go.RowKit Go.Proofs

theorem Try.infoRefRec : (Try.prog.info? 127).map (fun i => (i.zero, i.size, i.bytes)) = some (some (.agg #[.string ⟨#[]⟩, .int .u64 0, .int .i64 0, .int .i64 0, .bool false, .string ⟨#[]⟩]), 6, 64) := by kernel_rfl
/-- the bodies of the loops of a code, in the order of the text -/
def bodies : Code → List Code
  | .loop c => c :: bodies c
  | .seq a b => bodies a ++ bodies b
  | .block _ c => bodies c
  | .scope c => bodies c
  | .cond _ a b => bodies a ++ bodies b
  | _ => []
def nthCode : List Code → Nat → Code
  | [], _ => .skip
  | c :: _, 0 => c
  | _ :: l, n + 1 => nthCode l n
noncomputable def bothBody3 : Code := nthCode (bodies (Try.f16.body.getD .skip)) 2
set_option maxRecDepth 100000 in
/-- what a round leads to -/
def Both3Next (x : LMsg) (xp : MsgP) (W : World) (da : List Int) (di : List MId) (dr : List MRec) (aa ab ia ib : Option Addr) (ca cb ja jb : Nat) (u0 u2 u3 u6 u7 u8 u11 u12 u13 u14 u15 u16 u17 u18 u19 u20 u21 u22 u23 u24 u25 u26 u27 u28 u29 u30 u31 u32 u33 u34 u35 u36 u37 u38 u39 u40 u41 u42 u43 u44 u45 u46 u47 u48 u49 u50 u51 u52 u53 u54 u55 u56 u57 u58 u59 u60 u61 u62 u63 u64 u65 u66 u67 u68 u69 u70 u71 u72 u73 u74 u75 u76 u77 u78 u79 u80 u81 u82 u83 u84 u85 u86 u87 u88 u89 u90 u91 u92 u93 u94 u95 u96 u97 u98 u99 u100 u101 u102 u103 u104 u105 u106 u107 u108 u109 u110 u111 u169 u170 : Value) (N : Act → World → Prop) : Prop :=
  ∀ (e : MRec) (va' vb' : Value) (w' : World) (v10 v112 v113 v114 v115 v116 v117 v118 v119 v120 v121 v122 v123 v124 v125 v126 v127 v128 v129 v130 v131 v132 v133 v134 v135 v136 v137 v138 v139 v140 v141 v142 v143 v144 v145 v146 v147 v148 v149 v150 v151 v152 v153 v154 v155 v156 v157 v158 v159 v160 v161 v162 v163 v164 v165 v166 v167 v168 : Value), Hid (dr ++ [e] = (x.recs.take (dr ++ [e]).length).map LRec) → BothSt W x xp #[.int .i64 x.kind, .int .i64 x.node, .int .i64 x.walk, .bool x.high, .slice aa da.length ca, .slice ia di.length ja, va'] #[.int .i64 x.kind, .int .i64 x.node, .int .i64 x.walk, .bool x.high, .slice ab da.length cb, .slice ib di.length jb, vb'] w' → w'.ownsRow (W.heap.size + 5) 3 1 (.slice aa da.length ca) da.length (da.flatMap MInt.cells) → w'.ownsRow (W.heap.size + 5) 3 1 (.slice ab da.length cb) da.length (da.flatMap MInt.cells) → w'.ownsRow (W.heap.size + 5) 121 2 (.slice ia di.length ja) di.length (di.flatMap MId.cells) → w'.ownsRow (W.heap.size + 5) 126 2 (.slice ib di.length jb) di.length (di.flatMap MId.cells) → w'.ownsRow (W.heap.size + 5) 123 6 va' (dr ++ [e]).length ((dr ++ [e]).flatMap MRec.cells) → w'.ownsRow (W.heap.size + 5) 127 6 vb' (dr ++ [e]).length ((dr ++ [e]).flatMap MRec.cells) → N ⟨List.toArray (u0 :: .pointer (some ⟨W.heap.size, 0, none⟩) :: u2 :: u3 :: .pointer (some ⟨W.heap.size + 3, 0, none⟩) :: .pointer (some ⟨W.heap.size + 4, 0, none⟩) :: u6 :: u7 :: u8 :: .int .i64 ((dr.length : Int) + 1) :: v10 :: u11 :: u12 :: u13 :: u14 :: u15 :: u16 :: u17 :: u18 :: u19 :: u20 :: u21 :: u22 :: u23 :: u24 :: u25 :: u26 :: u27 :: u28 :: u29 :: u30 :: u31 :: u32 :: u33 :: u34 :: u35 :: u36 :: u37 :: u38 :: u39 :: u40 :: u41 :: u42 :: u43 :: u44 :: u45 :: u46 :: u47 :: u48 :: u49 :: u50 :: u51 :: u52 :: u53 :: u54 :: u55 :: u56 :: u57 :: u58 :: u59 :: u60 :: u61 :: u62 :: u63 :: u64 :: u65 :: u66 :: u67 :: u68 :: u69 :: u70 :: u71 :: u72 :: u73 :: u74 :: u75 :: u76 :: u77 :: u78 :: u79 :: u80 :: u81 :: u82 :: u83 :: u84 :: u85 :: u86 :: u87 :: u88 :: u89 :: u90 :: u91 :: u92 :: u93 :: u94 :: u95 :: u96 :: u97 :: u98 :: u99 :: u100 :: u101 :: u102 :: u103 :: u104 :: u105 :: u106 :: u107 :: u108 :: u109 :: u110 :: u111 :: v112 :: v113 :: v114 :: v115 :: v116 :: v117 :: v118 :: v119 :: v120 :: v121 :: v122 :: v123 :: v124 :: v125 :: v126 :: v127 :: v128 :: v129 :: v130 :: v131 :: v132 :: v133 :: v134 :: v135 :: v136 :: v137 :: v138 :: v139 :: v140 :: v141 :: v142 :: v143 :: v144 :: v145 :: v146 :: v147 :: v148 :: v149 :: v150 :: v151 :: v152 :: v153 :: v154 :: v155 :: v156 :: v157 :: v158 :: v159 :: v160 :: v161 :: v162 :: v163 :: v164 :: v165 :: v166 :: v167 :: v168 :: u169 :: u170 :: []), []⟩ w'
set_option maxHeartbeats 4000000 in
set_option maxRecDepth 100000 in
theorem both_round3 {x : LMsg} {xp : MsgP} {W wr : World} {n3 : Nat} {da : List Int} {di : List MId} {dr : List MRec} {aa ab ia ib : Option Addr} {ca cb ja jb : Nat} {va vb : Value} {u0 u2 u3 u6 u7 u8 u10 u11 u12 u13 u14 u15 u16 u17 u18 u19 u20 u21 u22 u23 u24 u25 u26 u27 u28 u29 u30 u31 u32 u33 u34 u35 u36 u37 u38 u39 u40 u41 u42 u43 u44 u45 u46 u47 u48 u49 u50 u51 u52 u53 u54 u55 u56 u57 u58 u59 u60 u61 u62 u63 u64 u65 u66 u67 u68 u69 u70 u71 u72 u73 u74 u75 u76 u77 u78 u79 u80 u81 u82 u83 u84 u85 u86 u87 u88 u89 u90 u91 u92 u93 u94 u95 u96 u97 u98 u99 u100 u101 u102 u103 u104 u105 u106 u107 u108 u109 u110 u111 u112 u113 u114 u115 u116 u117 u118 u119 u120 u121 u122 u123 u124 u125 u126 u127 u128 u129 u130 u131 u132 u133 u134 u135 u136 u137 u138 u139 u140 u141 u142 u143 u144 u145 u146 u147 u148 u149 u150 u151 u152 u153 u154 u155 u156 u157 u158 u159 u160 u161 u162 u163 u164 u165 u166 u167 u168 u169 u170 : Value} {N K : Act → World → Prop} {R : Ending → World → Prop}
    (HN3 : Hid (n3 = min x.recs.length 20)) (HX : Hid (LMsgAt W x xp)) (HOK : Hid x.Ok) (hlt : dr.length < n3) (HD : Hid (dr = (x.recs.take dr.length).map LRec))
    (ST : Hid (BothSt W x xp #[.int .i64 x.kind, .int .i64 x.node, .int .i64 x.walk, .bool x.high, .slice aa da.length ca, .slice ia di.length ja, va] #[.int .i64 x.kind, .int .i64 x.node, .int .i64 x.walk, .bool x.high, .slice ab da.length cb, .slice ib di.length jb, vb] wr)) (OA : Hid (wr.ownsRow (W.heap.size + 5) 3 1 (.slice aa da.length ca) da.length (da.flatMap MInt.cells))) (OB : Hid (wr.ownsRow (W.heap.size + 5) 3 1 (.slice ab da.length cb) da.length (da.flatMap MInt.cells))) (IA : Hid (wr.ownsRow (W.heap.size + 5) 121 2 (.slice ia di.length ja) di.length (di.flatMap MId.cells))) (IB : Hid (wr.ownsRow (W.heap.size + 5) 126 2 (.slice ib di.length jb) di.length (di.flatMap MId.cells))) (RA : Hid (wr.ownsRow (W.heap.size + 5) 123 6 va (dr).length ((dr).flatMap MRec.cells))) (RB : Hid (wr.ownsRow (W.heap.size + 5) 127 6 vb (dr).length ((dr).flatMap MRec.cells)))
    (HQ : Both3Next x xp W da di dr aa ab ia ib ca cb ja jb u0 u2 u3 u6 u7 u8 u11 u12 u13 u14 u15 u16 u17 u18 u19 u20 u21 u22 u23 u24 u25 u26 u27 u28 u29 u30 u31 u32 u33 u34 u35 u36 u37 u38 u39 u40 u41 u42 u43 u44 u45 u46 u47 u48 u49 u50 u51 u52 u53 u54 u55 u56 u57 u58 u59 u60 u61 u62 u63 u64 u65 u66 u67 u68 u69 u70 u71 u72 u73 u74 u75 u76 u77 u78 u79 u80 u81 u82 u83 u84 u85 u86 u87 u88 u89 u90 u91 u92 u93 u94 u95 u96 u97 u98 u99 u100 u101 u102 u103 u104 u105 u106 u107 u108 u109 u110 u111 u169 u170 N) :
    Code.wp Try.prog bothBody3 (Exit.then N (Exit.inBlock 4 (Exit.then K (bodyPost Try.prog Try.f16 R)))) ⟨List.toArray (u0 :: .pointer (some ⟨W.heap.size, 0, none⟩) :: u2 :: u3 :: .pointer (some ⟨W.heap.size + 3, 0, none⟩) :: .pointer (some ⟨W.heap.size + 4, 0, none⟩) :: u6 :: u7 :: u8 :: .int .i64 dr.length :: u10 :: u11 :: u12 :: u13 :: u14 :: u15 :: u16 :: u17 :: u18 :: u19 :: u20 :: u21 :: u22 :: u23 :: u24 :: u25 :: u26 :: u27 :: u28 :: u29 :: u30 :: u31 :: u32 :: u33 :: u34 :: u35 :: u36 :: u37 :: u38 :: u39 :: u40 :: u41 :: u42 :: u43 :: u44 :: u45 :: u46 :: u47 :: u48 :: u49 :: u50 :: u51 :: u52 :: u53 :: u54 :: u55 :: u56 :: u57 :: u58 :: u59 :: u60 :: u61 :: u62 :: u63 :: u64 :: u65 :: u66 :: u67 :: u68 :: u69 :: u70 :: u71 :: u72 :: u73 :: u74 :: u75 :: u76 :: u77 :: u78 :: u79 :: u80 :: u81 :: u82 :: u83 :: u84 :: u85 :: u86 :: u87 :: u88 :: u89 :: u90 :: u91 :: u92 :: u93 :: u94 :: u95 :: u96 :: u97 :: u98 :: u99 :: u100 :: u101 :: u102 :: u103 :: u104 :: u105 :: u106 :: u107 :: u108 :: u109 :: u110 :: u111 :: u112 :: u113 :: u114 :: u115 :: u116 :: u117 :: u118 :: u119 :: u120 :: u121 :: u122 :: u123 :: u124 :: u125 :: u126 :: u127 :: u128 :: u129 :: u130 :: u131 :: u132 :: u133 :: u134 :: u135 :: u136 :: u137 :: u138 :: u139 :: u140 :: u141 :: u142 :: u143 :: u144 :: u145 :: u146 :: u147 :: u148 :: u149 :: u150 :: u151 :: u152 :: u153 :: u154 :: u155 :: u156 :: u157 :: u158 :: u159 :: u160 :: u161 :: u162 :: u163 :: u164 :: u165 :: u166 :: u167 :: u168 :: u169 :: u170 :: []), []⟩ wr := by
  obtain ⟨i3, hl1, hl2, hl3, hl4⟩ := info_parts Try.infoMRec
  obtain ⟨i5, hn1, hn2, hn3, hn4⟩ := info_parts Try.infoRefRec
  have hc3 := HX.out.recs.le
  have hd3 := HX.out.recs.max
  have q3 : n3 ≤ x.recs.length := by have := HN3.out; omega
  have r3 : n3 ≤ 20 := by have := HN3.out; omega
  have h1 : (dr.length : Int) < (x.recs.length : Int) := by omega
  have h2 : (dr.length : Int) < 20 := by omega
  have y4 := ST.out.bx 6 _ rfl
  conv => arg 2; whnf
  obtain ⟨bb, o, ea, hc0, hc1, hc2, hc3, hc4, hc5⟩ := (HX.out.keep ST.out.fr).rcd dr.length (by omega)
  have HS : Hid (dr ++ [LRec x.recs[dr.length]] = (x.recs.take (dr ++ [LRec x.recs[dr.length]]).length).map LRec) := Lib.hid (snoc_of LRec HD.out (by omega))
  obtain ⟨hkz, hdz, hv0, hv1⟩ := HOK.out.recs _ (List.getElem_mem (show dr.length < x.recs.length by omega))
  generalize x.recs[dr.length] = e at *
  rw [ea] at y4
  clear ea
  obtain ⟨mm, hm1', hm2', hite, hmin, hext⟩ := cut_min e.key hkz
  obtain ⟨mn, hn1', hn2', hite2, hmin2, hext2⟩ := cut_min e.data hdz
  have HEXT := Lib.hid (And.intro hext hext2)
  clear hext hext2
  have hsz := ST.out.sz
  go_wp2_with fail
  generalize hw5 : World.alloc wr (.cells #[.string e.key, .int .u64 e.ver, .int .i64 e.origin, .int .i64 e.age, .bool e.gone, .string e.data] 125) = w5
  have f5 : Gr wr w5 := by rw [← hw5]; exact (Fr.refl _ _).alloc _
  have b5 : w5.heap[wr.heap.size]? = some (.cells #[.string e.key, .int .u64 e.ver, .int .i64 e.origin, .int .i64 e.age, .bool e.gone, .string e.data] 125 (0, 0)) := by rw [← hw5, heap_alloc_if, if_pos rfl]
  have ST5 := Lib.hid (ST.out.gr f5)
  have OA5 := Lib.hid (own_fr OA.out f5 (fun _ _ h => h))
  have OB5 := Lib.hid (own_fr OB.out f5 (fun _ _ h => h))
  have IA5 := Lib.hid (own_fr IA.out f5 (fun _ _ h => h))
  have IB5 := Lib.hid (own_fr IB.out f5 (fun _ _ h => h))
  have RA5 := Lib.hid (own_fr RA.out f5 (fun _ _ h => h))
  have RB5 := Lib.hid (own_fr RB.out f5 (fun _ _ h => h))
  clear hw5 f5 hc0 hc1 hc2 hc3 hc4 hc5 y4
  generalize hq : wr.heap.size = q at *
  have HQ := Lib.hid hq
  have e0 : w5.cell? ⟨q, 0, none⟩ = some (.string e.key) := by rw [Lib.cell_of_heap b5]; rfl
  have e5 : w5.cell? ⟨q, 5, none⟩ = some (.string e.data) := by rw [Lib.cell_of_heap b5]; rfl
  have z0 : w5.frozen? ⟨q, 0, none⟩ = false := Lib.frozen_of_heap b5 0
  have z5 : w5.frozen? ⟨q, 5, none⟩ = false := Lib.frozen_of_heap b5 5
  have B5 := Lib.hid b5
  clear b5 hq
  clear h1 h2 hc3 hd3 q3
  go_region
  rw [HEXT.out.1, HEXT.out.2]
  have hks := cutS_size e.key
  have hds := cutS_size e.data
  obtain ⟨ks, hk2⟩ : ∃ ks, ks = cutS e.key := ⟨_, rfl⟩
  obtain ⟨ds, hk3⟩ : ∃ ds, ds = cutS e.data := ⟨_, rfl⟩
  rw [← hk2] at hks ⊢
  rw [← hk3] at hds ⊢
  have HKS := Lib.hid (show LRec e = ⟨ks, e.ver, e.origin, e.age, e.gone, ds⟩ by rw [hk2, hk3]; rfl)
  clear hk2 hk3 HEXT hite hite2 hmin hmin2 hkz hdz hv0 hv1 hm1' hm2' hn1' hn2' HX HOK HN3
  generalize hw6 : World.drew (World.setCell (World.setCell w5 ⟨q, 0, none⟩ (.string ks)) ⟨q, 5, none⟩ (.string ds)) = w6
  have f6 : Fr (fun k => k = q) w5 w6 := by rw [← hw6]; exact rec_fr _ _ _ _
  have b6 : w6.heap[q]? = some (.cells #[.string ks, .int .u64 e.ver, .int .i64 e.origin, .int .i64 e.age, .bool e.gone, .string ds] 125 (0, 0)) := by rw [← hw6]; exact rec_box B5.out _ _
  have ST6 := Lib.hid (ST5.out.grow f6 (fun k hk => by omega))
  have OA6 := Lib.hid (own_fr OA5.out f6 (own_no OA.out HQ.out))
  have OB6 := Lib.hid (own_fr OB5.out f6 (own_no OB.out HQ.out))
  have IA6 := Lib.hid (own_fr IA5.out f6 (own_no IA.out HQ.out))
  have IB6 := Lib.hid (own_fr IB5.out f6 (own_no IB.out HQ.out))
  have RA6 := Lib.hid (own_fr RA5.out f6 (own_no RA.out HQ.out))
  have RB6 := Lib.hid (own_fr RB5.out f6 (own_no RB.out HQ.out))
  have B6 := Lib.hid b6
  have lq : q < w6.heap.size := by have := (Array.getElem?_eq_some_iff.1 b6).1; omega
  have NQA := Lib.hid (own_no RA.out HQ.out)
  have NQB := Lib.hid (own_no RB.out HQ.out)
  clear hw6 f6 e0 e5 z0 z5 B5 b6 OA OB IA IB RA RB ST OA5 OB5 IA5 IB5 RA5 RB5 ST5 HQ
  have e0 : w6.cell? ⟨q, 0, none⟩ = some (.string ks) := by rw [Lib.cell_of_heap B6.out]; rfl
  have e1 : w6.cell? ⟨q, 1, none⟩ = some (.int .u64 e.ver) := by rw [Lib.cell_of_heap B6.out]; rfl
  have e2 : w6.cell? ⟨q, 2, none⟩ = some (.int .i64 e.origin) := by rw [Lib.cell_of_heap B6.out]; rfl
  have e3 : w6.cell? ⟨q, 3, none⟩ = some (.int .i64 e.age) := by rw [Lib.cell_of_heap B6.out]; rfl
  have e4 : w6.cell? ⟨q, 4, none⟩ = some (.bool e.gone) := by rw [Lib.cell_of_heap B6.out]; rfl
  have e5 : w6.cell? ⟨q, 5, none⟩ = some (.string ds) := by rw [Lib.cell_of_heap B6.out]; rfl
  have y : w6.cell? ⟨W.heap.size + 3, 6, none⟩ = some va := ST6.out.cellA 6 _ rfl
  obtain ⟨w7, hw7⟩ : ∃ w7, w7 = World.alloc w6 (.cells #[.string ks, .int .u64 e.ver, .int .i64 e.origin, .int .i64 e.age, .bool e.gone, .string ds] 123) := ⟨_, rfl⟩
  have f7 : Gr w6 w7 := by rw [hw7]; exact (Fr.refl _ _).alloc _
  have N7 := Lib.hid (show News w7 w6.heap.size [.string ks, .int .u64 e.ver, .int .i64 e.origin, .int .i64 e.age, .bool e.gone, .string ds] by rw [hw7]; exact news_cells _ #[.string ks, .int .u64 e.ver, .int .i64 e.origin, .int .i64 e.age, .bool e.gone, .string ds] _)
  have ST7 := Lib.hid (ST6.out.gr f7)
  have OA7 := Lib.hid (own_fr OA6.out f7 (fun _ _ h => h))
  have OB7 := Lib.hid (own_fr OB6.out f7 (fun _ _ h => h))
  have IA7 := Lib.hid (own_fr IA6.out f7 (fun _ _ h => h))
  have IB7 := Lib.hid (own_fr IB6.out f7 (fun _ _ h => h))
  have RA7 := Lib.hid (own_fr RA6.out f7 (fun _ _ h => h))
  have RB7 := Lib.hid (own_fr RB6.out f7 (fun _ _ h => h))
  have B7 := Lib.hid (show w7.heap[q]? = some (.cells #[.string ks, .int .u64 e.ver, .int .i64 e.origin, .int .i64 e.age, .bool e.gone, .string ds] 125 (0, 0)) by rw [f7.block q lq (fun h => h)]; exact B6.out)
  have lq7 : q < w7.heap.size := Nat.lt_of_lt_of_le lq f7.size
  have HW7 := Lib.hid hw7
  clear hw7 f7
  go_upto_region 17 with fail
  refine wp_region_lit ?_
  iterate 15 (refine wpList_plain rfl fun K hK => ?_; (first | go_big_move | go_big_op); refine hK _ _ ?_; clear hK K)
  refine wpList_rec ks e.ver e.origin e.age e.gone ds (by rfl) (by rfl) (by rfl) (by rfl) (by rfl) ?_
  go_wp2_with (at_builtin; rw [← HW7.out]; refine wpList_append_lies _ rfl _ _ 28 rfl (W.heap.size + 5) 123 i3 (.agg #[.string ⟨#[]⟩, .int .u64 0, .int .i64 0, .int .i64 0, .bool false, .string ⟨#[]⟩]) 6 64 Try.underlying28 hl1 hl2 hl3 hl4 rfl (by decide) _ _ _ rfl RA7.out ⟨w6.heap.size, 0, none⟩ 1 1 [.string ks, .int .u64 e.ver, .int .i64 e.origin, .int .i64 e.age, .bool e.gone, .string ds] rfl rfl N7.out (by intro u hu; simp at hu; (first | (rcases hu with rfl | rfl | rfl | rfl | rfl | rfl) | (rcases hu with rfl | rfl) | (subst hu)) <;> rfl) (by decide) (by unfold maxLen; omega) (by omega) (by have := ST7.out.sz; omega) _ rfl ?_)
  intro g8 c8 w8 ho8 hg8 hat8 hlt8
  have f8 : Fr (fun k => Value.ownBlock va = some k) w7 w8 := (Fr.refl _ _).grown hg8 (fun q hq => .inl hq)
  have ST8 := Lib.hid (ST7.out.grow f8 (fun k hk => (RA7.out.lt k hk).1))
  have OA8 := Lib.hid (own_grown OA7.out hg8 (own_sep OA7.out RA7.out (by decide)))
  have OB8 := Lib.hid (own_grown OB7.out hg8 (own_sep OB7.out RA7.out (by decide)))
  have IA8 := Lib.hid (own_grown IA7.out hg8 (own_sep IA7.out RA7.out (by decide)))
  have IB8 := Lib.hid (own_grown IB7.out hg8 (own_sep IB7.out RA7.out (by decide)))
  have RB8 := Lib.hid (own_grown RB7.out hg8 (own_sep RB7.out RA7.out (by decide)))
  have RA8 := Lib.hid (show w8.ownsRow (W.heap.size + 5) 123 6 (.slice (some ⟨g8, 0, none⟩) (dr.length + 1) c8) (dr ++ [(⟨ks, e.ver, e.origin, e.age, e.gone, ds⟩ : MRec)]).length ((dr ++ [(⟨ks, e.ver, e.origin, e.age, e.gone, ds⟩ : MRec)]).flatMap MRec.cells) from by simpa using ho8)
  have B8 := Lib.hid (show w8.heap[q]? = some (.cells #[.string ks, .int .u64 e.ver, .int .i64 e.origin, .int .i64 e.age, .bool e.gone, .string ds] 125 (0, 0)) by rw [f8.block q lq7 (fun h => NQA.out q h rfl)]; exact B7.out)
  have lq8 : q < w8.heap.size := Nat.lt_of_lt_of_le lq7 f8.size
  clear ho8 hg8 hat8 f8 y HW7 N7 e0 e1 e2 e3 e4 e5
  have y : w8.cell? ⟨W.heap.size + 3, 6, none⟩ = some va := ST8.out.cellA 6 _ rfl
  have z := ST8.out.zA 6
  go_upto_region 18 with fail
  generalize hw9 : World.setCell w8 ⟨W.heap.size + 3, 6, none⟩ (.slice (some ⟨g8, 0, none⟩) (dr.length + 1) c8) = w9
  have f9 : Fr (fun k => k = W.heap.size + 3) w8 w9 := by rw [← hw9]; exact set_fr _ _ _ _
  have ST9 := Lib.hid (ST8.out.setA 6 (.slice (some ⟨g8, 0, none⟩) (dr.length + 1) c8))
  rw [hw9] at ST9
  simp only [List.setIfInBounds_toArray, List.set_cons_zero, List.set_cons_succ] at ST9
  have OA9 := Lib.hid (own_low OA8.out f9 (by omega))
  have OB9 := Lib.hid (own_low OB8.out f9 (by omega))
  have IA9 := Lib.hid (own_low IA8.out f9 (by omega))
  have IB9 := Lib.hid (own_low IB8.out f9 (by omega))
  have RA9 := Lib.hid (own_low RA8.out f9 (by omega))
  have RB9 := Lib.hid (own_low RB8.out f9 (by omega))
  have B9 := Lib.hid (show w9.heap[q]? = some (.cells #[.string ks, .int .u64 e.ver, .int .i64 e.origin, .int .i64 e.age, .bool e.gone, .string ds] 125 (0, 0)) by rw [f9.block q lq8 (by omega)]; exact B8.out)
  clear hw9 f9 y z
  have e0 : w9.cell? ⟨q, 0, none⟩ = some (.string ks) := by rw [Lib.cell_of_heap B9.out]; rfl
  have e1 : w9.cell? ⟨q, 1, none⟩ = some (.int .u64 e.ver) := by rw [Lib.cell_of_heap B9.out]; rfl
  have e2 : w9.cell? ⟨q, 2, none⟩ = some (.int .i64 e.origin) := by rw [Lib.cell_of_heap B9.out]; rfl
  have e3 : w9.cell? ⟨q, 3, none⟩ = some (.int .i64 e.age) := by rw [Lib.cell_of_heap B9.out]; rfl
  have e4 : w9.cell? ⟨q, 4, none⟩ = some (.bool e.gone) := by rw [Lib.cell_of_heap B9.out]; rfl
  have e5 : w9.cell? ⟨q, 5, none⟩ = some (.string ds) := by rw [Lib.cell_of_heap B9.out]; rfl
  have y : w9.cell? ⟨W.heap.size + 4, 6, none⟩ = some vb := ST9.out.cellB 6 _ rfl
  obtain ⟨wa, hwa⟩ : ∃ wa, wa = World.alloc w9 (.cells #[.string ks, .int .u64 e.ver, .int .i64 e.origin, .int .i64 e.age, .bool e.gone, .string ds] 127) := ⟨_, rfl⟩
  have fa : Gr w9 wa := by rw [hwa]; exact (Fr.refl _ _).alloc _
  have NA := Lib.hid (show News wa w9.heap.size [.string ks, .int .u64 e.ver, .int .i64 e.origin, .int .i64 e.age, .bool e.gone, .string ds] by rw [hwa]; exact news_cells _ #[.string ks, .int .u64 e.ver, .int .i64 e.origin, .int .i64 e.age, .bool e.gone, .string ds] _)
  have STa := Lib.hid (ST9.out.gr fa)
  have OAa := Lib.hid (own_fr OA9.out fa (fun _ _ h => h))
  have OBa := Lib.hid (own_fr OB9.out fa (fun _ _ h => h))
  have IAa := Lib.hid (own_fr IA9.out fa (fun _ _ h => h))
  have IBa := Lib.hid (own_fr IB9.out fa (fun _ _ h => h))
  have RAa := Lib.hid (own_fr RA9.out fa (fun _ _ h => h))
  have RBa := Lib.hid (own_fr RB9.out fa (fun _ _ h => h))
  have HWa := Lib.hid hwa
  clear hwa fa
  go_wp2_with (at_builtin; rw [← HWa.out]; refine wpList_append_lies _ rfl _ _ 32 rfl (W.heap.size + 5) 127 i5 (.agg #[.string ⟨#[]⟩, .int .u64 0, .int .i64 0, .int .i64 0, .bool false, .string ⟨#[]⟩]) 6 64 Try.underlying32 hn1 hn2 hn3 hn4 rfl (by decide) _ _ _ rfl RBa.out ⟨w9.heap.size, 0, none⟩ 1 1 [.string ks, .int .u64 e.ver, .int .i64 e.origin, .int .i64 e.age, .bool e.gone, .string ds] rfl rfl NA.out (by intro u hu; simp at hu; (first | (rcases hu with rfl | rfl | rfl | rfl | rfl | rfl) | (rcases hu with rfl | rfl) | (subst hu)) <;> rfl) (by decide) (by unfold maxLen; omega) (by omega) (by have := STa.out.sz; omega) _ rfl ?_)
  intro gb cb' wb hob hgb hatb hltb
  have fb : Fr (fun k => Value.ownBlock vb = some k) wa wb := (Fr.refl _ _).grown hgb (fun q hq => .inl hq)
  have STb := Lib.hid (STa.out.grow fb (fun k hk => (RBa.out.lt k hk).1))
  have OAb := Lib.hid (own_grown OAa.out hgb (own_sep OAa.out RBa.out (by decide)))
  have OBb := Lib.hid (own_grown OBa.out hgb (own_sep OBa.out RBa.out (by decide)))
  have IAb := Lib.hid (own_grown IAa.out hgb (own_sep IAa.out RBa.out (by decide)))
  have IBb := Lib.hid (own_grown IBa.out hgb (own_sep IBa.out RBa.out (by decide)))
  have RAb := Lib.hid (own_grown RAa.out hgb (own_sep RAa.out RBa.out (by decide)))
  have RBb := Lib.hid (show wb.ownsRow (W.heap.size + 5) 127 6 (.slice (some ⟨gb, 0, none⟩) (dr.length + 1) cb') (dr ++ [(⟨ks, e.ver, e.origin, e.age, e.gone, ds⟩ : MRec)]).length ((dr ++ [(⟨ks, e.ver, e.origin, e.age, e.gone, ds⟩ : MRec)]).flatMap MRec.cells) from by simpa using hob)
  clear hob hgb hatb fb y HWa NA e0 e1 e2 e3 e4 e5
  have y : wb.cell? ⟨W.heap.size + 4, 6, none⟩ = some vb := STb.out.cellB 6 _ rfl
  have z := STb.out.zB 6
  go_wp2_with fail
  generalize hwc : World.setCell wb ⟨W.heap.size + 4, 6, none⟩ (.slice (some ⟨gb, 0, none⟩) (dr.length + 1) cb') = wc
  have fc : Fr (fun k => k = W.heap.size + 4) wb wc := by rw [← hwc]; exact set_fr _ _ _ _
  have STc := Lib.hid (STb.out.setB 6 (.slice (some ⟨gb, 0, none⟩) (dr.length + 1) cb'))
  rw [hwc] at STc
  simp only [List.setIfInBounds_toArray, List.set_cons_zero, List.set_cons_succ] at STc
  have OAc := Lib.hid (own_low OAb.out fc (by omega))
  have OBc := Lib.hid (own_low OBb.out fc (by omega))
  have IAc := Lib.hid (own_low IAb.out fc (by omega))
  have IBc := Lib.hid (own_low IBb.out fc (by omega))
  have RAc := Lib.hid (own_low RAb.out fc (by omega))
  have RBc := Lib.hid (own_low RBb.out fc (by omega))
  clear hwc fc y z
  exact HQ (⟨ks, e.ver, e.origin, e.age, e.gone, ds⟩ : MRec) _ _ _ _ _ _ _ _ _ _ _ _ _ _ _ _ _ _ _ _ _ _ _ _ _ _ _ _ _ _ _ _ _ _ _ _ _ _ _ _ _ _ _ _ _ _ _ _ _ _ _ _ _ _ _ _ _ _ _ _ _ (Lib.hid (by have := HS.out; rwa [HKS.out] at this)) STc.out OAc.out OBc.out IAc.out IBc.out RAc.out RBc.out
end Go.Proofs.Ytkclgemkeifbaaa
