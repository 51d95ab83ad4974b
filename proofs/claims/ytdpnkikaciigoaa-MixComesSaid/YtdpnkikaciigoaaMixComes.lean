/-
  The walk of MixComes (printed by gen_mixcomes.py).
-/
import Derived.Test.YtdpnkikaciigoaaMixPre
import Derived.Test.YtdpnkikaciigoaaMixOn
namespace Go.Proofs.Ytdpnkikaciigoaa
open Go.RowKit Go.Proofs

theorem and15_bound (x : Int) : ∃ v : Int, bits .and .i64 x 15 = v ∧ 0 ≤ v ∧ v ≤ 15 := by
  refine ⟨_, rfl, ?_⟩
  have h : (BitVec.ofInt 64 x &&& BitVec.ofInt 64 15).toNat ≤ 15 := by
    rw [BitVec.toNat_and]
    exact Nat.and_le_right
  have e : bits .and .i64 x 15 = IntKind.i64.wrap ((BitVec.ofInt 64 x &&& BitVec.ofInt 64 15).toNat : Int) := rfl
  rw [e, IntKind.wrap_i64]
  omega
/-- what OnShuffle leaves where the sample ends -/
def CmHere (p : Value) (v : Vw) (m : Mq) (ds : List Int) (W : World) (ov : Value) (w' : World) : Prop :=
  DrawV w' p (kAll v m.nodes (osWant v m ds).2).2 ∧
    (osAns v m = false → ov = .slice none 0 0) ∧
    (osAns v m = true → ∃ g aw cw, ov = .slice (some ⟨g, 0, none⟩) 1 1 ∧ W.heap.size ≤ g ∧ w'.heap[g]? = some (.cells (outArr m.node ⟨8, 0, 0, false, (osWant v m ds).1⟩ aw cw) 91 (0, 0)) ∧ SlA w' aw (osWant v m ds).1.length cw (ints (osWant v m ds).1) ∧ (∀ q, aw = some q → W.heap.size ≤ q.block))
theorem cm_range : ∀ (l : List Int) (v : Vw) (ds : List Int), (∀ x ∈ ds, 0 ≤ x ∧ x < 4294967296) → ∀ x ∈ (kAll v l ds).2, 0 ≤ x ∧ x < 4294967296
  | [], _, _, hd => hd
  | n :: r, v, ds, hd => by
    have e : kAll v (n :: r) ds = kAll (vKnow v n ds).1 r (vKnow v n ds).2 := rfl
    rw [e]
    refine cm_range r _ _ ?_
    unfold vKnow
    split
    · unfold vRoom
      simp only
      split
      · exact oneV_range hd
      · exact hd
    · exact hd
/-- the state while the document's views know the sample -/
structure CmSt (w4 : World) (q gw gk : Nat) (dp : Value) (v : Vw) (y : VwP) (vv : Vw) (yy : VwP) (dd : List Int) (w : World) (uk : Vw) (zk : VwP) (dk : List Int) (dak : Option Addr) (dck : Nat) (um : Vw) (zm : VwP) (dm : List Int) (dam : Option Addr) (dcm : Nat) : Prop where
  bk : w.heap[gk]? = some (.cells (rwArr uk zk dk dak dck) 51 (0, 0))
  bm : w.heap[q + 1]? = some (.cells (rwArr um zm dm dam dcm) 51 (0, 0))
  bz : w.heap[gw]? = some (.cells (vv.arr yy) 29 (0, 0))
  bv : w.heap[q]? = some (.cells (v.arr y) 29 (0, 0))
  rk : RwAt w uk zk dk dak dck
  rm : RwAt w um zm dm dam dcm
  ak : VwApart (fun k => k = q + 1 ∨ k = gk) uk zk
  am : VwApart (fun k => k = q + 1 ∨ k = gk) um zm
  va : VwAt w vv yy
  aa : VwApart (fun k => k = q + 1 ∨ k = gk) vv yy
  dr : DrawV w dp dd
  fr : Fr (fun k => q ≤ k) w4 w
section
variable {w4 : World} {q gw gk : Nat} {dp : Value} {v : Vw} {y : VwP} {vv : Vw} {yy : VwP} {dd : List Int} {w w' : World} {uk : Vw} {zk : VwP} {dk : List Int} {dak : Option Addr} {dck : Nat} {um : Vw} {zm : VwP} {dm : List Int} {dam : Option Addr} {dcm : Nat}
theorem CmSt.keep (h : CmSt w4 q gw gk dp v y vv yy dd w uk zk dk dak dck um zm dm dam dcm) (f : Gr w w') : CmSt w4 q gw gk dp v y vv yy dd w' uk zk dk dak dck um zm dm dam dcm :=
  ⟨blk_keep f h.bk (fun h => h), blk_keep f h.bm (fun h => h), blk_keep f h.bz (fun h => h), blk_keep f h.bv (fun h => h), h.rk.gr f, h.rm.gr f, h.ak, h.am, h.va.gr f, h.aa, h.dr.keep f, FrB.gr h.fr f⟩
theorem CmSt.lt (h : CmSt w4 q gw gk dp v y vv yy dd w uk zk dk dak dck um zm dm dam dcm) : gk < w.heap.size ∧ q + 1 < w.heap.size := ⟨(Array.getElem?_eq_some_iff.1 h.bk).1, (Array.getElem?_eq_some_iff.1 h.bm).1⟩
theorem CmSt.storeK (h : CmSt w4 q gw gk dp v y vv yy dd w uk zk dk dak dck um zm dm dam dcm) (f : Fr (fun k => k = gk) w w') (h1 : q + 1 < gw) (h2 : gw < gk) (hp : ∀ k, pblk dp k → q + 1 < k ∧ k < gw) {uk' : Vw} {zk' : VwP} {dk' : List Int} {dak' : Option Addr} {dck' : Nat}
    (b : w'.heap[gk]? = some (.cells (rwArr uk' zk' dk' dak' dck') 51 (0, 0))) (r : RwAt w uk' zk' dk' dak' dck') (a : VwApart (fun k => k = q + 1 ∨ k = gk) uk' zk') : CmSt w4 q gw gk dp v y vv yy dd w' uk' zk' dk' dak' dck' um zm dm dam dcm :=
  ⟨b, blk_keep f h.bm (by omega), blk_keep f h.bz (by omega), blk_keep f h.bv (by omega), r.store f a (.inr rfl) h.bk (noU32_arr _ _ _ _ _), h.rm.store f h.am (.inr rfl) h.bk (noU32_arr _ _ _ _ _), a, h.am, h.va.keepA f (h.aa.sub' (fun _ e => .inr e)), h.aa,
    h.dr.keepB f (fun e => by have := hp _ e; omega) h.bk (noU32_arr _ _ _ _ _), FrB.b h.fr f (by omega)⟩
theorem CmSt.storeM (h : CmSt w4 q gw gk dp v y vv yy dd w uk zk dk dak dck um zm dm dam dcm) (f : Fr (fun k => k = q + 1) w w') (h1 : q + 1 < gw) (h2 : gw < gk) (hp : ∀ k, pblk dp k → q + 1 < k ∧ k < gw) {um' : Vw} {zm' : VwP} {dm' : List Int} {dam' : Option Addr} {dcm' : Nat}
    (b : w'.heap[q + 1]? = some (.cells (rwArr um' zm' dm' dam' dcm') 51 (0, 0))) (r : RwAt w um' zm' dm' dam' dcm') (a : VwApart (fun k => k = q + 1 ∨ k = gk) um' zm') : CmSt w4 q gw gk dp v y vv yy dd w' uk zk dk dak dck um' zm' dm' dam' dcm' :=
  ⟨blk_keep f h.bk (by omega), b, blk_keep f h.bz (by omega), blk_keep f h.bv (by omega), h.rk.store f h.ak (.inl rfl) h.bm (noU32_arr _ _ _ _ _), r.store f a (.inl rfl) h.bm (noU32_arr _ _ _ _ _), h.ak, a, h.va.keepA f (h.aa.sub' (fun _ e => .inl e)), h.aa,
    h.dr.keepB f (fun e => by have := hp _ e; omega) h.bm (noU32_arr _ _ _ _ _), FrB.b h.fr f (by omega)⟩
end
theorem has_two (a b x : Int) : has [a, b] x = (!(x != a) || !(x != b)) := by
  rw [Bool.eq_iff_iff, has_iff]
  simp

set_option maxHeartbeats 16000000 in
set_option maxRecDepth 100000 in
theorem mixComes_walk (a0 : Option Addr) (c0 : Nat) (la : List Int) (a1 : Option Addr) (c1 : Nat) (lp : List Int) (a3 : Option Addr) (c3 : Nat) (ln : List Int) (s0 s1 s2 : Int) (a2 : Option Addr) (c2 : Nat) (lc : List Int) (W : World) (h0 : SlA W a0 la.length c0 (ints la)) (h1 : SlA W a1 lp.length c1 (ints lp)) (h3 : SlA W a3 ln.length c3 (ints ln))
    (hs2 : -9223372036854775808 ≤ s2 ∧ s2 ≤ 9223372036854775807) (hc : SlA W a2 lc.length c2 (lc.map (Value.int .u32))) (hcr : ∀ x ∈ lc, 0 ≤ x ∧ x < 4294967296) :
    Calls Try.prog 13 #[.agg #[.slice a0 la.length c0, .slice a1 lp.length c1, .slice a3 ln.length c3], .agg #[.int .i64 s0, .int .i64 s1, .int .i64 s2], .slice a2 lc.length c2] W fun e w' => e = .returned (.bool true) ∧ Gr W w' := by
  obtain ⟨iz, hz1, hz2, hzs⟩ := info_pair Try.zeroView
  obtain ⟨ir, hr1, hr2, hrs⟩ := info_pair Try.zeroRefView
  obtain ⟨w0, hw0⟩ : ∃ w0, w0 = (W.alloc (.cells #[.slice a0 la.length c0, .slice a1 lp.length c1, .slice a3 ln.length c3] 94)).alloc (.cells #[.int .i64 s0, .int .i64 s1, .int .i64 s2] 76) := ⟨_, rfl⟩
  have f0 : Gr W w0 := by rw [hw0]; exact ((Fr.refl _ _).alloc _).alloc _
  have X0 := Lib.hid (show w0.heap[W.heap.size]? = some (.cells #[.slice a0 la.length c0, .slice a1 lp.length c1, .slice a3 ln.length c3] 94 (0, 0)) by rw [hw0, heap_alloc_if, if_neg (by simp), heap_alloc_if, if_pos rfl])
  have Y0 := Lib.hid (show w0.heap[W.heap.size + 1]? = some (.cells #[.int .i64 s0, .int .i64 s1, .int .i64 s2] 76 (0, 0)) by rw [hw0, heap_alloc_if, if_pos (by simp)])
  have hsz0 : W.heap.size + 2 ≤ w0.heap.size := by rw [hw0]; simp
  have F0 := Lib.hid f0
  have HW0 := Lib.hid hw0
  have S0 := Lib.hid (speaks12_any w0)
  have HA := Lib.hid h0
  have HP := Lib.hid h1
  have HN := Lib.hid h3
  have e1 := h0.le
  have e2 := h0.max
  have e3 := h1.le
  have e4 := h1.max
  have e5 := hc.le
  have e6 := hc.max
  obtain ⟨l', hl1, hl2, hl3, hl4, hl5⟩ := cut_list (Value.int .u32) W a2 c2 lc 30 30 rfl hc
  have hb : l'.length * 4 ≤ 140737488355328 := by omega
  have e7 := hl3.le
  have HC := Lib.hid hl3
  have HR := Lib.hid (show ∀ x ∈ l', 0 ≤ x ∧ x < 4294967296 from fun x hx => hcr x (by rw [hl2] at hx; exact List.mem_of_mem_take hx))
  clear hw0 f0 h0 h1 h3 hc hcr hl2 hl3
  go_enter Try.func13, Try.ntmps13
  go_upto_region 1 with fail
  rw [← HW0.out]
  clear HW0
  go_wp2_with fail
  refine S0.out.mono ?_
  rintro e w1 ⟨rfl, f1⟩
  have F1 := Lib.hid (Gr.trans F0.out f1)
  have X1 := Lib.hid (blk_keep f1 X0.out (fun h => h))
  have Y1 := Lib.hid (blk_keep f1 Y0.out (fun h => h))
  have x0 := (Bx.of_block X1.out) 0 _ rfl
  have x1 := (Bx.of_block X1.out) 1 _ rfl
  have hsz1 : W.heap.size + 2 ≤ w1.heap.size := by have := f1.size; omega
  clear f1 X0 Y0 F0 S0
  have CM := Lib.hid (made_any a0 c0 la a1 c1 lp a2 c2 l' w1 (HA.out.keep F1.out (fun _ _ h => h)) (HP.out.keep F1.out (fun _ _ h => h)) (HC.out.keep F1.out (fun _ _ h => h)))
  unfold MadeEnd at CM
  go_upto_region 4 with fail
  clear hl4 hl5 HA HP
  go_wp2_with fail
  refine CM.out.mono ?_
  rintro e w4 ⟨v, y, u, z, rfl, hv, hu, hlk, hg, hsn, hv1, hv2, hv3, f4⟩
  have HV := Lib.hid hv
  have HU := Lib.hid hu
  have HL := Lib.hid (And.intro hlk (And.intro hg (And.intro hsn (And.intro hv1 (And.intro hv2 hv3)))))
  have F4 := Lib.hid (Gr.trans F1.out f4)
  have Y4 := Lib.hid (blk_keep f4 Y1.out (fun h => h))
  have X4 := Lib.hid (blk_keep f4 X1.out (fun h => h))
  have q1 := hu.act.le
  have q2 := hu.act.max
  have q3 := hu.pas.le
  have q4 := hu.pas.max
  have q5 := hv.act.le
  have q6 := hv.act.max
  have q7 := hv.pas.le
  have q8 := hv.pas.max
  have hsz4 : W.heap.size + 2 ≤ w4.heap.size := by have := f4.size; omega
  clear hv hu hlk hg hsn hv1 hv2 hv3 f4 CM x0 x1 X1 Y1 F1
  go_wp2_with (refine wpList_storeW (b := w4.heap.size) (cs := viewZ) (vs := v.arr y) (by rw [heap_alloc_if, if_neg (by simp), heap_alloc_if, if_pos rfl]) (by rfl) 29 _ _ (by rfl) (by rfl) (by rfl) rfl Try.infoView (by rw [← Array.all_toList]; rfl) ?_)
  intro w5 f5' b5
  obtain ⟨w4', hw4'⟩ : ∃ w4', w4' = (w4.alloc (.cells viewZ 29)).alloc (.cells rwZ 51) := ⟨_, rfl⟩
  have g4' : Gr w4 w4' := by rw [hw4']; exact ((Fr.refl _ _).alloc _).alloc _
  have c4' : w4'.heap[w4.heap.size + 1]? = some (.cells rwZ 51 (0, 0)) := by rw [hw4', heap_alloc_if, if_pos (by simp)]
  have f5 : Fr (fun k => k = w4.heap.size) w4' w5 := by rw [hw4']; exact f5'
  have c5 := blk_keep f5 c4' (by omega)
  go_wp2_with (refine wpList_storeW (b := w4.heap.size + 1) (vs := rwArr u z l' a2 c2) c5 (by rfl) 51 _ _ (by rfl) (by rfl) (by rfl) rfl Try.infoRefView (by rw [← Array.all_toList]; rfl) ?_)
  intro w6 f6 b6
  have b5' := blk_keep f6 b5 (by omega)
  obtain ⟨q, hq⟩ : ∃ q, q = w4.heap.size := ⟨_, rfl⟩
  have hWq : W.heap.size + 2 ≤ q := by omega
  have hq4 : w4.heap.size ≤ q := by omega
  rw [← hq] at f5 b5' f6 b6 ⊢
  have G6 := Lib.hid (show Fr (fun k => q ≤ k) w4 w6 from FrB.b (FrB.b (FrB.gr (Fr.refl _ _) g4') f5 (Nat.le_refl q)) f6 (show q ≤ q + 1 by omega))
  have V6 := Lib.hid b5'
  have M6 := Lib.hid b6
  have HVk := Lib.hid (fun w (f : Fr (fun k => q ≤ k) w4 w) => HV.out.keepLt f hq4)
  have HUk := Lib.hid (fun w (f : Fr (fun k => q ≤ k) w4 w) => HU.out.keepGt f hq4)
  have FW := Lib.hid (fun w (f : Fr (fun k => q ≤ k) w4 w) => show Gr W w from Fr.trans F4.out f (fun k hk => .inr (by omega)))
  have X6 := Lib.hid (G6.out.block _ (show W.heap.size < w4.heap.size by omega) (by omega) |>.trans X4.out)
  have Y6 := Lib.hid (G6.out.block _ (show W.heap.size + 1 < w4.heap.size by omega) (by omega) |>.trans Y4.out)
  have hs6 : q + 1 < w6.heap.size := (Array.getElem?_eq_some_iff.1 b6).1
  clear f5' b5 hw4' g4' c4' f5 c5 f6 b6 b5' hq Y4 X4 F4 HU hz1 hz2 hzs hr1 hr2 hrs hsz0 hsz1 hsz4
  obtain ⟨sm, hn1, hn2, hn3, hn4, hn5⟩ := cut_list (Value.int .i64) W a3 c3 ln 10 10 rfl HN.out
  have HSM := Lib.hid hn3
  have hn6 := hn3.le
  have hn7 := hn3.max
  have x2 := (Bx.of_block X6.out) 2 _ rfl
  obtain ⟨fr, hfr, hfr0, hfr1⟩ := and15_bound s0
  obtain ⟨og, hog, hog0, hog1⟩ := and15_bound s1
  have y0 := (Bx.of_block Y6.out) 0 _ rfl
  have y1 := (Bx.of_block Y6.out) 1 _ rfl
  have y2 := (Bx.of_block Y6.out) 2 _ rfl
  clear hn2 hn3 HN X6
  go_upto_region 6 with fail
  clear hn4 hn5 x2
  go_quiet (fail)
  obtain ⟨w7, hw7⟩ : ∃ w7, w7 = w6.drewN nq := ⟨_, rfl⟩
  rw [← hw7]
  have f7 : Gr w6 w7 := by rw [hw7]; exact (Fr.refl _ _).drewN nq
  have G7 := Lib.hid (FrB.gr G6.out f7)
  have V7 := Lib.hid (blk_keep f7 V6.out (fun h => h))
  have M7 := Lib.hid (blk_keep f7 M6.out (fun h => h))
  have hs7 : q + 1 < w7.heap.size := by have := f7.size; omega
  clear hw7 f7 G6 V6 M6 Y6 y0 y1 y2 hs6 hfr hog
  obtain ⟨im, hm1, hm2, hms⟩ := info_pair Try.zeroMsg
  go_upto_region 7 with fail
  refine wp_region_lit ?_
  iterate 9 go_step
  refine wpList_bldMsg (i0 := 7) (i1 := og) (i2 := s2) (sa := a3) (sn := sm.length) (sc := c3) (by rfl) (by rfl) (by rfl) (by rfl) ?_
  refine wpList_fresh (vs := Mq.arr ⟨7, og, s2, false, sm⟩ a3 c3) hm1 hm2 Try.infoMsg7 (by rfl) (by rw [← Array.all_toList]; rfl) (by rfl) (by rfl) ?_
  intro w8 f8 b8 l8
  obtain ⟨qx, hqx⟩ : ∃ g, g = w7.heap.size := ⟨_, rfl⟩
  rw [← hqx] at b8 l8 ⊢
  have G8 := Lib.hid (FrB.gr G7.out f8)
  have V8 := Lib.hid (blk_keep f8 V7.out (fun h => h))
  have M8 := Lib.hid (blk_keep f8 M7.out (fun h => h))
  have X8 := Lib.hid b8
  have hxq : q + 1 < qx := by omega
  clear f8 b8 hqx G7 V7 M7 hs7 hm1 hm2 hms im
  have CD := Lib.hid (fun w (f : Fr (fun k => q ≤ k) w4 w) => new_any a2 c2 l' w (HC.out.keep (FW.out w f) (fun _ _ h => h)) hb HR.out)
  go_upto_region 8 with fail
  go_wp2_with fail
  refine (CD.out w8 G8.out).mono ?_
  rintro e w9 ⟨d, rfl, hd3, hd4, bl7⟩
  obtain ⟨dp, hdp⟩ : ∃ dp, dp = Value.pointer (some ⟨d, 0, none⟩) := ⟨_, rfl⟩
  have g7 := Gr.of_below bl7
  have G9 := Lib.hid (FrB.gr G8.out g7)
  have V9 := Lib.hid (blk_keep g7 V8.out (fun h => h))
  have M9 := Lib.hid (blk_keep g7 M8.out (fun h => h))
  have X9 := Lib.hid (blk_keep g7 X8.out (fun h => h))
  have D9 := Lib.hid (show DrawV w9 dp l' from .inr ⟨d, hdp, hd4⟩)
  have HDD := Lib.hid (show ∃ d, dp = Value.pointer (some ⟨d, 0, none⟩) from ⟨d, hdp⟩)
  have HPD := Lib.hid (show ∀ k, pblk dp k → qx < k from fun k hk => by rw [hdp] at hk; unfold pblk at hk; cases hk; omega)
  rw [← hdp]
  clear hd3 hd4 bl7 g7 G8 V8 M8 X8 hdp l8
  have HSP := Lib.hid (show VwSep dp v y from VwSep.new HV.out (fun k hk => by have := HPD.out k hk; omega))
  have HSMk := Lib.hid (fun w (f : Fr (fun k => q ≤ k) w4 w) => show SlA w a3 sm.length c3 (ints sm) from HSM.out.keep (FW.out w f) (fun _ _ h => h))
  have HSB := Lib.hid (fun (hne : sm ≠ []) q9 (hq9 : a3 = some q9) => show q9.block < W.heap.size from HSM.out.ltNE hne q9 hq9)
  have CX := Lib.hid (onShuffle_any v y fr ⟨7, og, s2, false, sm⟩ a3 c3 dp l' w9 (HVk.out _ G9.out) D9.out HSP.out (HSMk.out _ G9.out) (fun hne q9 hq9 hk => by have := HSB.out hne q9 hq9; have := HPD.out _ hk; omega) hs2.2 (by simp only; omega))
  go_upto_region 9 with fail
  refine wp_region_lit ?_
  refine wpList_load_mid (by rfl) 29 _ (by rfl) q 0 (by rfl) (Array.toList (v.arr y)) _ (blk_range V9.out) Try.underlying29 rfl Try.infoView ?_
  refine wpList_move ?_
  refine wpList_load_mid (by rfl) 89 _ (by rfl) qx 0 (by rfl) (Array.toList (Mq.arr ⟨7, og, s2, false, sm⟩ a3 c3)) _ (blk_range X9.out) Try.underlying89 rfl Try.infoMsg7 ?_
  go_wp2_with fail
  refine CX.out.mono ?_
  intro e w10 hst
  unfold ShufEnd at hst
  simp only at hst
  obtain ⟨vv, yy, ov, rfl, hv10, hap, f10, hR0, hR1⟩ : ∃ vv yy ov, e = .returned (.tuple #[.agg (vv.arr yy), ov]) ∧ VwAt w10 vv yy ∧ VwApart (fun k => k = q + 1) vv yy ∧ Fr (pblk dp) w9 w10 ∧ ((wMix v fr og s2 l').1 = false → vv = v ∧ yy = y ∧ OsOn dp v y (wMix v fr og s2 l').2.1 ⟨7, og, s2, false, sm⟩ a3 c3 (wMix v fr og s2 l').2.2.2 w9 (.returned (.tuple #[.agg (vv.arr yy), ov])) w10) ∧ (¬ (wMix v fr og s2 l').1 = false → vv = (kAll v sm (osWant v ⟨7, og, s2, false, sm⟩ (wMix v fr og s2 l').2.2.2).2).1 ∧ CmHere dp v ⟨7, og, s2, false, sm⟩ (wMix v fr og s2 l').2.2.2 w9 ov w10) := by
    by_cases hon : (wMix v fr og s2 l').1 = false
    · rw [if_pos hon] at hst
      obtain ⟨go, rfl, hgo, bgo, hv10, hd10, f10⟩ := hst
      exact ⟨v, y, _, rfl, hv10, VwApart.new HV.out (fun k hk => by omega), f10, fun _ => ⟨rfl, rfl, go, rfl, hgo, bgo, hv10, hd10, f10⟩, fun h => absurd hon h⟩
    · rw [if_neg hon] at hst
      obtain ⟨yy, ov, rfl, hv10, hd10, hF, f10, hA, hB⟩ := hst
      exact ⟨_, yy, ov, rfl, hv10, (VwApart.new (S := fun k => k = q + 1) HV.out (fun k hk => by omega)).next hF (fun k hk => by have := (Array.getElem?_eq_some_iff.1 X9.out).1; omega), f10, fun h => absurd h hon, fun _ => ⟨rfl, hd10, hA, hB⟩⟩
  have HAPV := Lib.hid hap
  clear hap
  have HR0 := Lib.hid hR0
  have HR1 := Lib.hid hR1
  have HV10 := Lib.hid hv10
  have HPQ := Lib.hid (show ∀ k, pblk dp k → q ≤ k from fun k hk => by have := HPD.out k hk; omega)
  have G10 := Lib.hid (FrB.p G9.out f10 HPQ.out)
  have V10 := Lib.hid (blk_keep f10 V9.out (fun hk => by have := HPD.out _ hk; omega))
  have M10 := Lib.hid (blk_keep f10 M9.out (fun hk => by have := HPD.out _ hk; omega))
  have X10 := Lib.hid (blk_keep f10 X9.out (fun hk => by have := HPD.out _ hk; omega))
  have F9S := Lib.hid (show qx < w9.heap.size from (Array.getElem?_eq_some_iff.1 X9.out).1)
  clear hst hv10 f10 hR0 hR1 G9 V9 M9 X9 D9 CX
  go_wp2_with (refine wpList_storeW (b := w10.heap.size) (cs := viewZ) (vs := vv.arr yy) (by rw [heap_alloc_if, if_pos rfl]) (by rfl) 29 _ _ (by rfl) (by rfl) (by rfl) rfl Try.infoView (by rw [← Array.all_toList]; rfl) ?_)
  intro w11 f11' b11
  have f11 : Gr w10 w11 := fr_new ((Fr.refl (fun _ => False) w10).alloc _) f11' (Nat.le_refl _)
  obtain ⟨gw, hgw⟩ : ∃ g, g = w10.heap.size := ⟨_, rfl⟩
  rw [← hgw] at b11 ⊢
  have hgq : q + 1 < gw := by rw [hgw]; have := (Array.getElem?_eq_some_iff.1 X10.out).1; omega
  have HGW := Lib.hid (show gw = w10.heap.size from hgw)
  have hgx : qx < gw := by rw [hgw]; exact (Array.getElem?_eq_some_iff.1 X10.out).1
  have F11 := Lib.hid f11
  have G11 := Lib.hid (FrB.gr G10.out f11)
  have M11 := Lib.hid (blk_keep f11 M10.out (fun h => h))
  have Z11 := Lib.hid b11
  have CSo := Lib.hid (fun w (f : Fr (fun k => q ≤ k) w4 w) => refSorted_sl z.aa z.ac u.act v.act w (HUk.out w f).act HL.out.1.act HL.out.2.1.act.le (by have := HL.out.1.act.symm.length_eq; have := HL.out.2.1.act.len; omega))
  clear f11' f11 b11 hgw G10
  have y1 := (Bx.of_block M11.out) 1 _ rfl
  go_upto_region 11 with fail
  go_wp2_with fail
  refine (CSo.out _ G11.out).mono ?_
  rintro e w12 ⟨aS, cS, rfl, hS, f12⟩
  have GY := Lib.hid f12
  have F12 := Lib.hid (Gr.trans F11.out f12)
  have G12 := Lib.hid (FrB.gr G11.out f12)
  have HS := Lib.hid hS
  have hsl := hS.le
  have hsm' := hS.max
  have hv64 : v.act.length ≤ 64 := HL.out.2.1.act.len
  clear f12 hS y1 F11 G11
  obtain ⟨i0, hi, hz0, hz1, hz2⟩ := info_parts Try.infoint
  go_upto_region 12 with fail
  go_wp2_with fail
  have HL2 := Lib.hid (show (fr = fr) from rfl)
  clear HL2
  go_loopw [17, 19] (fun rv kv wr => ∃ k : Nat, kv = .int .i64 k ∧ k ≤ v.act.length ∧ wr.ownsRow w12.heap.size 3 1 rv (kept (keepP fr og) (v.act.take k)).length (ints (kept (keepP fr og) (v.act.take k))) ∧ Gr w12 wr) (fun _ kv _ => v.act.length - (intOf kv).toNat)
  case atStart => exact ⟨0, rfl, Nat.zero_le _, World.ownsRow_nil _ _ _ _, Fr.refl _ _⟩
  case round =>
    obtain ⟨k, rfl, hk, hO, hfr⟩ := hrel
    by_cases hkl : k < v.act.length
    · have hks := kept_snoc (keepP fr og) v.act k hkl
      obtain ⟨bm, om, rfl, hcm⟩ := (HS.out.keep hfr (fun _ _ h => h)).int k hkl
      have hRl : (kept (keepP fr og) (v.act.take k)).length ≤ 64 := Nat.le_trans (List.length_filter_le _ _) (by simp; omega)
      have HO := Lib.hid hO; clear hO
      have HFR := Lib.hid hfr; clear hfr
      have hsz := HFR.out.size
      by_cases he : v.act[k] = fr
      · have hne : (v.act[k] != fr) = false := by simpa using he
        have HKS : Hid (kept (keepP fr og) (v.act.take (k + 1)) = kept (keepP fr og) (v.act.take k)) := Lib.hid (by rw [hks, if_pos (by simp [keepP, he])])
        clear hks he
        go_wp2_with fail
        go_roundw
        case rel => exact ⟨k + 1, by go_num, by omega, by rw [HKS.out]; exact HO.out, HFR.out⟩
        case measure => simp [intOf]; omega
      · by_cases he5 : v.act[k] = og
        · have hne : (v.act[k] != fr) = true := by simpa using he
          have hne5 : (v.act[k] != og) = false := by simpa using he5
          have HKS : Hid (kept (keepP fr og) (v.act.take (k + 1)) = kept (keepP fr og) (v.act.take k)) := Lib.hid (by rw [hks, if_pos (by simp [keepP, he5])])
          clear hks he he5
          go_wp2_with fail
          go_roundw
          case rel => exact ⟨k + 1, by go_num, by omega, by rw [HKS.out]; exact HO.out, HFR.out⟩
          case measure => simp [intOf]; omega
        · have hne : (v.act[k] != fr) = true := by simpa using he
          have hne5 : (v.act[k] != og) = true := by simpa using he5
          have HKS : Hid (kept (keepP fr og) (v.act.take (k + 1)) = kept (keepP fr og) (v.act.take k) ++ [v.act[k]]) := Lib.hid (by rw [hks, if_neg (by simp [keepP, he, he5])])
          clear hks he he5
          generalize kept (keepP fr og) (v.act.take k) = R at *
          generalize v.act[k] = yk at *
          go_wp2_with (at_builtin; refine wpList_append_own _ rfl _ _ 22 rfl w12.heap.size 3 i0 (.int .i64 0) 1 8 Try.underlying22 hi hz0 hz1 hz2 rfl (by decide) _ _ _ rfl (HO.out.alloc _) ⟨wr.heap.size, 0, none⟩ 1 1 [.int .i64 yk] rfl rfl (news_one _ _ _) (one_one _ rfl) (by unfold maxLen; omega) (by omega) (by rw [World.size_alloc]; omega) ?_)
          intro v1 w8 hown1 hgrow1 _
          have hf8 : Gr w12 w8 := (HFR.out.alloc _).grown hgrow1 (fun q hq => .inr ((HO.out.lt q hq).1))
          have HO1 := Lib.hid hown1
          have HF8 := Lib.hid hf8
          clear hown1 hgrow1 hf8
          go_wp2_with fail
          go_roundw
          case rel => exact ⟨k + 1, by go_num, by omega, by rw [HKS.out]; simpa using HO1.out, HF8.out⟩
          case measure => simp [intOf]; omega
    · have hkM : kept (keepP fr og) (v.act.take k) = but v.act [fr, og] := by rw [List.take_of_length_le (by omega), but_keep]
      rw [hkM] at hO
      have hRl : (but v.act [fr, og]).length ≤ 64 := Nat.le_trans (List.length_filter_le _ _) (by omega)
      clear hkM
      obtain ⟨R, hR⟩ : ∃ R, R = but v.act [fr, og] := ⟨_, rfl⟩
      rw [← hR] at hO hRl
      have HBR := Lib.hid hR
      obtain ⟨ra, rc, rfl, hsR, -⟩ := SlA.of_own hO
      have l1 := hsR.le
      have l2 := hsR.max
      generalize wr = w13 at *
      have GZ := Lib.hid (Gr.trans GY.out hfr)
      have F13 := Lib.hid (Gr.trans F12.out hfr)
      have G13 := Lib.hid (FrB.gr G12.out hfr)
      have HSR := Lib.hid hsR
      clear hO hfr hk hR hsR HS hsl hsm' F12 G12 hi hz0 hz1 hz2
      by_cases hon : (wMix v fr og s2 l').1 = false
      · have h1s := wMix_on hon
        have hRne : R ≠ [] := by
          intro h
          rw [HBR.out] at h
          unfold wMix at hon
          rw [if_neg (by omega)] at hon
          unfold onV oneV at hon
          rw [if_pos h] at hon
          cases hon
        have hRp : 0 < R.length := List.length_pos_iff.2 hRne
        have hwm : wMix v fr og s2 l' = (false, (oneV l' R).1, false, (oneV l' R).2.2) := by
          have hon' := hon
          unfold wMix at hon' ⊢
          rw [if_neg (by omega)] at hon' ⊢
          unfold onV at hon' ⊢
          rw [← HBR.out] at hon' ⊢
          simp only at hon' ⊢
          rw [hon']
        obtain ⟨rfl, rfl, go, hgo, hgoge, bgo, -, -, -⟩ := HR0.out hon
        obtain rfl : ov = .slice (some ⟨go, 0, none⟩) 1 1 := by cases hgo; rfl
        rw [hwm] at bgo
        simp only at bgo
        have BO13 := Lib.hid (blk_keep F13.out bgo (fun h => h))
        have hgoq : qx < go := by have := (Array.getElem?_eq_some_iff.1 X10.out).1; have := F9S.out; omega
        have Z13 := Lib.hid (blk_keep GZ.out Z11.out (fun h => h))
        have V13 := Lib.hid (blk_keep F13.out V10.out (fun h => h))
        have X13 := Lib.hid (blk_keep F13.out X10.out (fun h => h))
        have HV13 := Lib.hid (HV10.out.gr F13.out)
        have hxw := (Array.getElem?_eq_some_iff.1 X10.out).1
        obtain ⟨tv, htv⟩ : ∃ tv, tv = (oneV l' R).1 := ⟨_, rfl⟩
        rw [← htv] at BO13
        have HTV := Lib.hid htv
        obtain ⟨bR, oR, rfl, hcR⟩ := HSR.out.int 0 hRp
        rw [Nat.add_zero] at hcR
        obtain ⟨r0, hr0⟩ : ∃ r, r = R[0] := ⟨_, rfl⟩
        rw [← hr0] at hcR
        have HR00 := Lib.hid hr0
        have x2 := (Bx.of_block X13.out) 2 _ rfl
        have zc := Lib.frozen_of_heap X13.out 2
        have hd1 : decide ((1 : Int) ≤ s2) = true := decide_eq_true h1s
        have hd3 : decide (0 < R.length) = true := decide_eq_true hRp
        clear hgo bgo HR0 HR1 hwm hr0 htv M10 X10 V10 M11 Z11 hgoge
        obtain ⟨tw, htw⟩ : ∃ b : Bool, b = decide (1 < R.length ∧ 0 < l'.length) := ⟨_, rfl⟩
        have HTW := Lib.hid htw
        clear htw hon
        go_upto_region 19 with fail
        go_cut [117] from 110 to 117 (fun c wx => c = .bool tw ∧ w13 = wx)
        case first =>
          by_cases h1 : (1 : Int) < (R.length : Int)
          · by_cases h2 : (0 : Int) < (l'.length : Int)
            · have hd := Lib.hid (show tw = true by rw [HTW.out]; exact decide_eq_true ⟨by omega, by omega⟩)
              go_wp2_with fail
              go_meet
              exact ⟨by rw [hd.out, decide_eq_true (show 0 < l'.length by omega)], rfl⟩
            · have hd := Lib.hid (show tw = false by rw [HTW.out]; exact decide_eq_false (fun h => by omega))
              go_wp2_with fail
              go_meet
              exact ⟨by rw [hd.out, decide_eq_false (show ¬ 0 < l'.length by omega)], rfl⟩
          · have hd := Lib.hid (show tw = false by rw [HTW.out]; exact decide_eq_false (fun h => by omega))
            go_wp2_with fail
            go_meet
            exact ⟨by rw [hd.out], rfl⟩
        case rest =>
          obtain ⟨rfl, rfl⟩ := hcut
          clear hcR
          cases tw
          case false =>
            have ho := oneV_out (ds := l') (l := R) hRne (by
              have h9 := of_decide_eq_false HTW.out.symm
              by_cases hl : l' = []
              · exact .inr (.inl hl)
              · have := List.length_pos_iff.2 hl; left; omega)
            obtain rfl : tv = r0 := by
              rw [HTV.out, ho, HR00.out, List.getD_eq_getElem?_getD, List.getElem?_eq_getElem hRp]; rfl
            clear HTW ho HR00 HTV
            go_upto_region 22 with fail
            obtain ⟨w14, hw14⟩ : ∃ w14, w14 = World.setCell w13 ⟨qx, 2, none⟩ (.int .i64 (s2 - 1)) := ⟨_, rfl⟩
            rw [← hw14]
            have f14 : Fr (fun k => k = qx) w13 w14 := by rw [hw14]; exact (Fr.refl (fun k => k = qx) _).setCell (p := ⟨qx, 2, none⟩) (.inl rfl) _
            have X14 := Lib.hid (show w14.heap[qx]? = some (.cells (Mq.arr ⟨7, og, s2 - 1, false, sm⟩ a3 c3) 89 (0, 0)) by rw [hw14]; exact blk_set1 X13.out 2 _)
            have BO14 := Lib.hid (blk_keep f14 BO13.out (by omega))
            have Z14 := Lib.hid (blk_keep f14 Z13.out (by omega))
            have V14 := Lib.hid (blk_keep f14 V13.out (by omega))
            have G14 := Lib.hid (FrB.b G13.out f14 (show q ≤ qx by omega))
            have HV14 := Lib.hid (HVk.out _ G14.out)
            clear hw14 f14 X13 BO13 Z13 V13 HV13 x2 zc hd1 hd3
            have SQ := Lib.hid (fun w (f : Gr w14 w) => sameQ_any ⟨7, og, s2 - 1, false, sm⟩ a3 a3 c3 c3 w (HSMk.out _ (FrB.gr G14.out f)) (HSMk.out _ (FrB.gr G14.out f)))
            have CA := Lib.hid (fun w (f : Gr w14 w) => setAll_any yy.pa yy.pc vv.pas vv.pm w (HV14.out.gr f).pas HV14.out.good.pas)
            haveI : Nonempty (WC (Gr w14)) := ⟨⟨w14, Fr.refl _ _⟩⟩
            have o0 : ∀ z' : WC (Gr w14), z'.val.cell? ⟨go, 0, none⟩ = some (.int .i64 tv) := fun z' => z'.ok.cell ((Bx.of_block BO14.out) 0 _ rfl) (fun h => h)
            have o1 : ∀ z' : WC (Gr w14), z'.val.cell? ⟨go, 1, none⟩ = some (.int .i64 7) := fun z' => z'.ok.cell ((Bx.of_block BO14.out) 1 _ rfl) (fun h => h)
            have o2 : ∀ z' : WC (Gr w14), z'.val.cell? ⟨go, 2, none⟩ = some (.int .i64 og) := fun z' => z'.ok.cell ((Bx.of_block BO14.out) 2 _ rfl) (fun h => h)
            have o3 : ∀ z' : WC (Gr w14), z'.val.cell? ⟨go, 3, none⟩ = some (.int .i64 (s2 - 1)) := fun z' => z'.ok.cell ((Bx.of_block BO14.out) 3 _ rfl) (fun h => h)
            have o4 : ∀ z' : WC (Gr w14), z'.val.cell? ⟨go, 4, none⟩ = some (.bool false) := fun z' => z'.ok.cell ((Bx.of_block BO14.out) 4 _ rfl) (fun h => h)
            have o5 : ∀ z' : WC (Gr w14), z'.val.cell? ⟨go, 5, none⟩ = some (.slice a3 sm.length c3) := fun z' => z'.ok.cell ((Bx.of_block BO14.out) 5 _ rfl) (fun h => h)
            have o6 : ∀ z' : WC (Gr w14), z'.val.cell? ⟨go, 6, none⟩ = some (.slice none 0 0) := fun z' => z'.ok.cell ((Bx.of_block BO14.out) 6 _ rfl) (fun h => h)
            have o7 : ∀ z' : WC (Gr w14), z'.val.cell? ⟨go, 7, none⟩ = some (.slice none 0 0) := fun z' => z'.ok.cell ((Bx.of_block BO14.out) 7 _ rfl) (fun h => h)
            have x0 : ∀ z' : WC (Gr w14), z'.val.cell? ⟨qx, 0, none⟩ = some (.int .i64 7) := fun z' => z'.ok.cell ((Bx.of_block X14.out) 0 _ rfl) (fun h => h)
            have x1 : ∀ z' : WC (Gr w14), z'.val.cell? ⟨qx, 1, none⟩ = some (.int .i64 og) := fun z' => z'.ok.cell ((Bx.of_block X14.out) 1 _ rfl) (fun h => h)
            have x2 : ∀ z' : WC (Gr w14), z'.val.cell? ⟨qx, 2, none⟩ = some (.int .i64 (s2 - 1)) := fun z' => z'.ok.cell ((Bx.of_block X14.out) 2 _ rfl) (fun h => h)
            have x3 : ∀ z' : WC (Gr w14), z'.val.cell? ⟨qx, 3, none⟩ = some (.bool false) := fun z' => z'.ok.cell ((Bx.of_block X14.out) 3 _ rfl) (fun h => h)
            have x4 : ∀ z' : WC (Gr w14), z'.val.cell? ⟨qx, 4, none⟩ = some (.slice a3 sm.length c3) := fun z' => z'.ok.cell ((Bx.of_block X14.out) 4 _ rfl) (fun h => h)
            have x5 : ∀ z' : WC (Gr w14), z'.val.cell? ⟨qx, 5, none⟩ = some (.slice none 0 0) := fun z' => z'.ok.cell ((Bx.of_block X14.out) 5 _ rfl) (fun h => h)
            have x6 : ∀ z' : WC (Gr w14), z'.val.cell? ⟨qx, 6, none⟩ = some (.slice none 0 0) := fun z' => z'.ok.cell ((Bx.of_block X14.out) 6 _ rfl) (fun h => h)
            have p3 : ∀ z' : WC (Gr w14), z'.val.cell? ⟨gw, 3, none⟩ = some (.slice yy.pa vv.pas.length yy.pc) := fun z' => z'.ok.cell ((Bx.of_block Z14.out) 3 _ rfl) (fun h => h)
            have p4 : ∀ z' : WC (Gr w14), z'.val.cell? ⟨gw, 4, none⟩ = some (.int .i64 vv.pm) := fun z' => z'.ok.cell ((Bx.of_block Z14.out) 4 _ rfl) (fun h => h)
            have v3 : ∀ z' : WC (Gr w14), z'.val.cell? ⟨q, 3, none⟩ = some (.slice yy.pa vv.pas.length yy.pc) := fun z' => z'.ok.cell ((Bx.of_block V14.out) 3 _ rfl) (fun h => h)
            have v4 : ∀ z' : WC (Gr w14), z'.val.cell? ⟨q, 4, none⟩ = some (.int .i64 vv.pm) := fun z' => z'.ok.cell ((Bx.of_block V14.out) 4 _ rfl) (fun h => h)
            refine wp_region_plan [17, 22, 25, 26] (Plan.seq [0, 1, 2, 3, 4, 5, 6, 7, 8, 9, 10, 11, 12, 13, 14, 15, 16, 17, 18, 19, 20, 21, 22, 23, 24, 25, 26, 27, 28] .done) (fun w' => ∃ z' : WC (Gr w14), w' = z'.val) (by kernel_rfl) (by kernel_rfl) (fun c a w d v h => by cases d <;> exact h) (fun c a w d v h => by cases d <;> exact h) ⟨⟨w14.drew, (Fr.refl _ _).drew⟩, rfl⟩ ?_
            simp only [Plan.seq, List.foldr]
            refine wpV_q (by simp only [List.getElem?_toArray, List.getElem?_cons_zero] <;> rfl) (by rfl) (by rfl) ?_
            go_big_quiet_step (fail)
            refine wpQuiet_nil ?_
            repeat (refine wpV_q (by simp only [List.getElem?_toArray, List.getElem?_cons_succ, List.getElem?_cons_zero] <;> rfl) (by rfl) (by rfl) ?_; go_big_quiet_step (fail); refine wpQuiet_nil ?_)
            refine wpV_e (by simp only [List.getElem?_toArray, List.getElem?_cons_succ, List.getElem?_cons_zero] <;> rfl) (by rfl) ?_
            go_wp2_with fail
            refine (SQ.out _ ((Fr.refl _ _).drew)).mono ?_
            rintro e w15 ⟨rfl, f15⟩
            have F15 := Lib.hid (show Gr w14 w15 from Gr.trans ((Fr.refl _ _).drew) f15)
            clear f15 SQ
            go_wp2_with fail
            refine ⟨⟨⟨w15, F15.out⟩, rfl⟩, ?_⟩
            repeat (refine wpV_q (by simp only [List.getElem?_toArray, List.getElem?_cons_succ, List.getElem?_cons_zero] <;> rfl) (by rfl) (by rfl) ?_; go_big_quiet_step (fail); refine wpQuiet_nil ?_)
            refine wpV_e (by simp only [List.getElem?_toArray, List.getElem?_cons_succ, List.getElem?_cons_zero] <;> rfl) (by rfl) ?_
            go_wp2_with fail
            refine (CA.out _ F15.out).mono ?_
            rintro e w16 ⟨vA, rfl, ho, hb9⟩
            obtain ⟨a4, c4, rfl, h4, -⟩ := SlA.of_own ho
            have F16 := Lib.hid (Gr.trans F15.out (Gr.of_below hb9))
            have H4 := Lib.hid h4
            clear ho hb9 h4
            go_wp2_with fail
            refine ⟨⟨⟨w16, F16.out⟩, rfl⟩, ?_⟩
            repeat (refine wpV_q (by simp only [List.getElem?_toArray, List.getElem?_cons_succ, List.getElem?_cons_zero] <;> rfl) (by rfl) (by rfl) ?_; go_big_quiet_step (fail); refine wpQuiet_nil ?_)
            refine wpV_e (by simp only [List.getElem?_toArray, List.getElem?_cons_succ, List.getElem?_cons_zero] <;> rfl) (by rfl) ?_
            go_wp2_with fail
            refine (CA.out _ F16.out).mono ?_
            rintro e w17 ⟨vA, rfl, ho, hb9⟩
            obtain ⟨a5, c5, rfl, h5, -⟩ := SlA.of_own ho
            have g17 := Gr.of_below hb9
            have F17 := Lib.hid (Gr.trans F16.out g17)
            have SM := Lib.hid (refSame_any a4 c4 vv.pas a5 c5 vv.pas w17 (H4.out.keep g17 (fun _ _ h => h)) h5)
            clear ho hb9 h5 g17
            go_wp2_with fail
            refine ⟨⟨⟨w17, F17.out⟩, rfl⟩, ?_⟩
            repeat (refine wpV_q (by simp only [List.getElem?_toArray, List.getElem?_cons_succ, List.getElem?_cons_zero] <;> rfl) (by rfl) (by rfl) ?_; go_big_quiet_step (fail); refine wpQuiet_nil ?_)
            refine wpV_e (by simp only [List.getElem?_toArray, List.getElem?_cons_succ, List.getElem?_cons_zero] <;> rfl) (by rfl) ?_
            go_wp2_with fail
            refine SM.out.mono ?_
            rintro e w18 ⟨rfl, q18, hq18⟩
            have F18 := Lib.hid (show Gr w14 w18 by rw [hq18]; exact F17.out.drewN q18)
            clear hq18 SM
            rw [(same_iff vv.pas vv.pas).2 rfl]
            go_wp2_with fail
            refine ⟨⟨⟨w18, F18.out⟩, rfl⟩, ?_⟩
            repeat (refine wpV_q (by simp only [List.getElem?_toArray, List.getElem?_cons_succ, List.getElem?_cons_zero] <;> rfl) (by rfl) (by rfl) ?_; go_big_quiet_step (fail); refine wpQuiet_nil ?_)
            refine wpV_done ?_
            clear o0 o1 o2 o3 o4 o5 o6 o7 x0 x1 x2 x3 x4 x5 x6 p3 p4 v3 v4 this
            go_wp2_with fail
            go_ret
            exact ⟨rfl, FW.out _ (FrB.gr G14.out F18.out)⟩
          case true =>
            have hdc := of_decide_eq_true HTW.out.symm
            obtain ⟨c, r, rfl⟩ : ∃ c r, l' = c :: r := by
              cases l' with
              | nil => exact absurd hdc.2 (by simp)
              | cons c r => exact ⟨c, r, rfl⟩
            have hcr := HR.out c (by simp)
            have ho := oneV_in (c := c) (r := r) (l := R) hdc.1 hRl
            obtain ⟨k2, hk2⟩ : ∃ k2 : Nat, c % (R.length : Int) = (k2 : Int) := ⟨(c % (R.length : Int)).toNat, by have := Int.emod_nonneg c (show (R.length : Int) ≠ 0 by omega); omega⟩
            have hkl2 : k2 < R.length := by have := Int.emod_lt_of_pos c (show 0 < (R.length : Int) by omega); omega
            rw [hk2] at ho
            have htm : c.tmod (R.length : Int) = (k2 : Int) := by rw [Int.tmod_eq_emod_of_nonneg hcr.1]; exact hk2
            have hkR : (k2 : Int) < (R.length : Int) := by omega
            obtain ⟨bR', oR', hbR', hcR⟩ := HSR.out.int k2 hkl2
            cases hbR'
            have htv2 : R[k2] = tv := by
              rw [HTV.out, ho, Int.toNat_natCast, List.getD_eq_getElem?_getD, List.getElem?_eq_getElem hkl2]; rfl
            rw [htv2] at hcR
            obtain ⟨bd, od, hbd, hcd⟩ := (HC.out.keep (FW.out _ G13.out) (fun _ _ h => h)).cell 0 (.int .u32 c) rfl
            obtain rfl := hbd
            rw [Nat.add_zero] at hcd
            have hun0 : ((R.length : Int) == 0) = false := by rw [beq_eq_false_iff_ne]; omega
            have hll : (0 : Int) < (((c :: r).length : Nat) : Int) := by simp only [List.length_cons]; omega
            clear HTW hdc ho htv2 HR00 HTV hk2
            go_upto_region 22 with fail
            obtain ⟨w14, hw14⟩ : ∃ w14, w14 = World.setCell w13 ⟨qx, 2, none⟩ (.int .i64 (s2 - 1)) := ⟨_, rfl⟩
            rw [← hw14]
            have f14 : Fr (fun k => k = qx) w13 w14 := by rw [hw14]; exact (Fr.refl (fun k => k = qx) _).setCell (p := ⟨qx, 2, none⟩) (.inl rfl) _
            have X14 := Lib.hid (show w14.heap[qx]? = some (.cells (Mq.arr ⟨7, og, s2 - 1, false, sm⟩ a3 c3) 89 (0, 0)) by rw [hw14]; exact blk_set1 X13.out 2 _)
            have BO14 := Lib.hid (blk_keep f14 BO13.out (by omega))
            have Z14 := Lib.hid (blk_keep f14 Z13.out (by omega))
            have V14 := Lib.hid (blk_keep f14 V13.out (by omega))
            have G14 := Lib.hid (FrB.b G13.out f14 (show q ≤ qx by omega))
            have HV14 := Lib.hid (HVk.out _ G14.out)
            clear hw14 f14 X13 BO13 Z13 V13 HV13 x2 zc hd1 hd3
            have SQ := Lib.hid (fun w (f : Gr w14 w) => sameQ_any ⟨7, og, s2 - 1, false, sm⟩ a3 a3 c3 c3 w (HSMk.out _ (FrB.gr G14.out f)) (HSMk.out _ (FrB.gr G14.out f)))
            have CA := Lib.hid (fun w (f : Gr w14 w) => setAll_any yy.pa yy.pc vv.pas vv.pm w (HV14.out.gr f).pas HV14.out.good.pas)
            haveI : Nonempty (WC (Gr w14)) := ⟨⟨w14, Fr.refl _ _⟩⟩
            have o0 : ∀ z' : WC (Gr w14), z'.val.cell? ⟨go, 0, none⟩ = some (.int .i64 tv) := fun z' => z'.ok.cell ((Bx.of_block BO14.out) 0 _ rfl) (fun h => h)
            have o1 : ∀ z' : WC (Gr w14), z'.val.cell? ⟨go, 1, none⟩ = some (.int .i64 7) := fun z' => z'.ok.cell ((Bx.of_block BO14.out) 1 _ rfl) (fun h => h)
            have o2 : ∀ z' : WC (Gr w14), z'.val.cell? ⟨go, 2, none⟩ = some (.int .i64 og) := fun z' => z'.ok.cell ((Bx.of_block BO14.out) 2 _ rfl) (fun h => h)
            have o3 : ∀ z' : WC (Gr w14), z'.val.cell? ⟨go, 3, none⟩ = some (.int .i64 (s2 - 1)) := fun z' => z'.ok.cell ((Bx.of_block BO14.out) 3 _ rfl) (fun h => h)
            have o4 : ∀ z' : WC (Gr w14), z'.val.cell? ⟨go, 4, none⟩ = some (.bool false) := fun z' => z'.ok.cell ((Bx.of_block BO14.out) 4 _ rfl) (fun h => h)
            have o5 : ∀ z' : WC (Gr w14), z'.val.cell? ⟨go, 5, none⟩ = some (.slice a3 sm.length c3) := fun z' => z'.ok.cell ((Bx.of_block BO14.out) 5 _ rfl) (fun h => h)
            have o6 : ∀ z' : WC (Gr w14), z'.val.cell? ⟨go, 6, none⟩ = some (.slice none 0 0) := fun z' => z'.ok.cell ((Bx.of_block BO14.out) 6 _ rfl) (fun h => h)
            have o7 : ∀ z' : WC (Gr w14), z'.val.cell? ⟨go, 7, none⟩ = some (.slice none 0 0) := fun z' => z'.ok.cell ((Bx.of_block BO14.out) 7 _ rfl) (fun h => h)
            have x0 : ∀ z' : WC (Gr w14), z'.val.cell? ⟨qx, 0, none⟩ = some (.int .i64 7) := fun z' => z'.ok.cell ((Bx.of_block X14.out) 0 _ rfl) (fun h => h)
            have x1 : ∀ z' : WC (Gr w14), z'.val.cell? ⟨qx, 1, none⟩ = some (.int .i64 og) := fun z' => z'.ok.cell ((Bx.of_block X14.out) 1 _ rfl) (fun h => h)
            have x2 : ∀ z' : WC (Gr w14), z'.val.cell? ⟨qx, 2, none⟩ = some (.int .i64 (s2 - 1)) := fun z' => z'.ok.cell ((Bx.of_block X14.out) 2 _ rfl) (fun h => h)
            have x3 : ∀ z' : WC (Gr w14), z'.val.cell? ⟨qx, 3, none⟩ = some (.bool false) := fun z' => z'.ok.cell ((Bx.of_block X14.out) 3 _ rfl) (fun h => h)
            have x4 : ∀ z' : WC (Gr w14), z'.val.cell? ⟨qx, 4, none⟩ = some (.slice a3 sm.length c3) := fun z' => z'.ok.cell ((Bx.of_block X14.out) 4 _ rfl) (fun h => h)
            have x5 : ∀ z' : WC (Gr w14), z'.val.cell? ⟨qx, 5, none⟩ = some (.slice none 0 0) := fun z' => z'.ok.cell ((Bx.of_block X14.out) 5 _ rfl) (fun h => h)
            have x6 : ∀ z' : WC (Gr w14), z'.val.cell? ⟨qx, 6, none⟩ = some (.slice none 0 0) := fun z' => z'.ok.cell ((Bx.of_block X14.out) 6 _ rfl) (fun h => h)
            have p3 : ∀ z' : WC (Gr w14), z'.val.cell? ⟨gw, 3, none⟩ = some (.slice yy.pa vv.pas.length yy.pc) := fun z' => z'.ok.cell ((Bx.of_block Z14.out) 3 _ rfl) (fun h => h)
            have p4 : ∀ z' : WC (Gr w14), z'.val.cell? ⟨gw, 4, none⟩ = some (.int .i64 vv.pm) := fun z' => z'.ok.cell ((Bx.of_block Z14.out) 4 _ rfl) (fun h => h)
            have v3 : ∀ z' : WC (Gr w14), z'.val.cell? ⟨q, 3, none⟩ = some (.slice yy.pa vv.pas.length yy.pc) := fun z' => z'.ok.cell ((Bx.of_block V14.out) 3 _ rfl) (fun h => h)
            have v4 : ∀ z' : WC (Gr w14), z'.val.cell? ⟨q, 4, none⟩ = some (.int .i64 vv.pm) := fun z' => z'.ok.cell ((Bx.of_block V14.out) 4 _ rfl) (fun h => h)
            refine wp_region_plan [17, 22, 25, 26] (Plan.seq [0, 1, 2, 3, 4, 5, 6, 7, 8, 9, 10, 11, 12, 13, 14, 15, 16, 17, 18, 19, 20, 21, 22, 23, 24, 25, 26, 27, 28] .done) (fun w' => ∃ z' : WC (Gr w14), w' = z'.val) (by kernel_rfl) (by kernel_rfl) (fun c a w d v h => by cases d <;> exact h) (fun c a w d v h => by cases d <;> exact h) ⟨⟨w14.drew, (Fr.refl _ _).drew⟩, rfl⟩ ?_
            simp only [Plan.seq, List.foldr]
            refine wpV_q (by simp only [List.getElem?_toArray, List.getElem?_cons_zero] <;> rfl) (by rfl) (by rfl) ?_
            go_big_quiet_step (fail)
            refine wpQuiet_nil ?_
            repeat (refine wpV_q (by simp only [List.getElem?_toArray, List.getElem?_cons_succ, List.getElem?_cons_zero] <;> rfl) (by rfl) (by rfl) ?_; go_big_quiet_step (fail); refine wpQuiet_nil ?_)
            refine wpV_e (by simp only [List.getElem?_toArray, List.getElem?_cons_succ, List.getElem?_cons_zero] <;> rfl) (by rfl) ?_
            go_wp2_with fail
            refine (SQ.out _ ((Fr.refl _ _).drew)).mono ?_
            rintro e w15 ⟨rfl, f15⟩
            have F15 := Lib.hid (show Gr w14 w15 from Gr.trans ((Fr.refl _ _).drew) f15)
            clear f15 SQ
            go_wp2_with fail
            refine ⟨⟨⟨w15, F15.out⟩, rfl⟩, ?_⟩
            repeat (refine wpV_q (by simp only [List.getElem?_toArray, List.getElem?_cons_succ, List.getElem?_cons_zero] <;> rfl) (by rfl) (by rfl) ?_; go_big_quiet_step (fail); refine wpQuiet_nil ?_)
            refine wpV_e (by simp only [List.getElem?_toArray, List.getElem?_cons_succ, List.getElem?_cons_zero] <;> rfl) (by rfl) ?_
            go_wp2_with fail
            refine (CA.out _ F15.out).mono ?_
            rintro e w16 ⟨vA, rfl, ho, hb9⟩
            obtain ⟨a4, c4, rfl, h4, -⟩ := SlA.of_own ho
            have F16 := Lib.hid (Gr.trans F15.out (Gr.of_below hb9))
            have H4 := Lib.hid h4
            clear ho hb9 h4
            go_wp2_with fail
            refine ⟨⟨⟨w16, F16.out⟩, rfl⟩, ?_⟩
            repeat (refine wpV_q (by simp only [List.getElem?_toArray, List.getElem?_cons_succ, List.getElem?_cons_zero] <;> rfl) (by rfl) (by rfl) ?_; go_big_quiet_step (fail); refine wpQuiet_nil ?_)
            refine wpV_e (by simp only [List.getElem?_toArray, List.getElem?_cons_succ, List.getElem?_cons_zero] <;> rfl) (by rfl) ?_
            go_wp2_with fail
            refine (CA.out _ F16.out).mono ?_
            rintro e w17 ⟨vA, rfl, ho, hb9⟩
            obtain ⟨a5, c5, rfl, h5, -⟩ := SlA.of_own ho
            have g17 := Gr.of_below hb9
            have F17 := Lib.hid (Gr.trans F16.out g17)
            have SM := Lib.hid (refSame_any a4 c4 vv.pas a5 c5 vv.pas w17 (H4.out.keep g17 (fun _ _ h => h)) h5)
            clear ho hb9 h5 g17
            go_wp2_with fail
            refine ⟨⟨⟨w17, F17.out⟩, rfl⟩, ?_⟩
            repeat (refine wpV_q (by simp only [List.getElem?_toArray, List.getElem?_cons_succ, List.getElem?_cons_zero] <;> rfl) (by rfl) (by rfl) ?_; go_big_quiet_step (fail); refine wpQuiet_nil ?_)
            refine wpV_e (by simp only [List.getElem?_toArray, List.getElem?_cons_succ, List.getElem?_cons_zero] <;> rfl) (by rfl) ?_
            go_wp2_with fail
            refine SM.out.mono ?_
            rintro e w18 ⟨rfl, q18, hq18⟩
            have F18 := Lib.hid (show Gr w14 w18 by rw [hq18]; exact F17.out.drewN q18)
            clear hq18 SM
            rw [(same_iff vv.pas vv.pas).2 rfl]
            go_wp2_with fail
            refine ⟨⟨⟨w18, F18.out⟩, rfl⟩, ?_⟩
            repeat (refine wpV_q (by simp only [List.getElem?_toArray, List.getElem?_cons_succ, List.getElem?_cons_zero] <;> rfl) (by rfl) (by rfl) ?_; go_big_quiet_step (fail); refine wpQuiet_nil ?_)
            refine wpV_done ?_
            clear o0 o1 o2 o3 o4 o5 o6 o7 x0 x1 x2 x3 x4 x5 x6 p3 p4 v3 v4 this
            go_wp2_with fail
            go_ret
            exact ⟨rfl, FW.out _ (FrB.gr G14.out F18.out)⟩
      · have hwd : (wMix v fr og s2 l').2.2.2 = l' ∧ (s2 < 1 ∨ R = []) := by
          unfold wMix at hon ⊢
          by_cases h1 : s2 < 1
          · rw [if_pos h1]; exact ⟨rfl, .inl h1⟩
          · rw [if_neg h1] at hon ⊢
            unfold onV oneV at hon ⊢
            rw [← HBR.out] at hon ⊢
            by_cases h2 : R = []
            · rw [if_pos h2]; exact ⟨rfl, .inr h2⟩
            · rw [if_neg h2] at hon; exact absurd rfl hon
        obtain ⟨hvv, hcm⟩ := HR1.out hon
        rw [hwd.1] at hvv hcm
        obtain ⟨hd10, hA, hB⟩ := hcm
        have HVV := Lib.hid hvv
        have HA := Lib.hid hA
        have HB := Lib.hid hB
        have D13 := Lib.hid (hd10.keep F13.out)
        have Z13 := Lib.hid (blk_keep GZ.out Z11.out (fun h => h))
        have V13 := Lib.hid (blk_keep F13.out V10.out (fun h => h))
        have M13 := Lib.hid (blk_keep F13.out M10.out (fun h => h))
        have HV13 := Lib.hid (HV10.out.gr F13.out)
        have HPX := Lib.hid (show ∀ k, pblk dp k → q + 1 < k ∧ k < gw from fun k hk => by have h1 := hd10.lt k hk; have h2 := HPD.out k hk; have h3 := HGW.out; omega)
        have hcon := hwd.2
        clear hvv hwd hd10 hA hB HR0 HR1 Z11 V10 M10 X10 M11 HV10 hon
        go_upto_region 17 with fail
        go_cut [106] from 100 to 106 (fun c wx => c = .bool false ∧ w13 = wx)
        case first =>
          rcases hcon with h1 | h1
          · have hd1 : decide ((1 : Int) ≤ s2) = false := decide_eq_false (by omega)
            go_wp2_with fail
            go_meet
            exact ⟨rfl, rfl⟩
          · subst h1
            by_cases h1 : (1 : Int) ≤ s2
            · have hd1 : decide ((1 : Int) ≤ s2) = true := decide_eq_true h1
              go_wp2_with fail
              go_meet
              exact ⟨rfl, rfl⟩
            · have hd1 : decide ((1 : Int) ≤ s2) = false := decide_eq_false (by omega)
              go_wp2_with fail
              go_meet
              exact ⟨rfl, rfl⟩
        case rest =>
          obtain ⟨rfl, rfl⟩ := hcut
          clear hcon
          go_upto_region 23 with fail
          refine wp_region_lit ?_
          refine wpList_load_mid (by rfl) 51 _ (by rfl) (q + 1) 0 (by rfl) (Array.toList (rwArr u z l' a2 c2)) _ (blk_range M13.out) Try.underlying51 rfl Try.infoRefView ?_
          go_wp2_with (refine wpList_storeW (b := w13.heap.size) (cs := rwZ) (vs := rwArr u z l' a2 c2) (by rw [heap_alloc_if, if_pos rfl]) (by rfl) 51 _ _ (by rfl) (by rfl) (by rfl) rfl Try.infoRefView (by rw [← Array.all_toList]; rfl) ?_)
          intro w14 f14' b14
          obtain ⟨gk, hgk⟩ : ∃ g, g = w13.heap.size := ⟨_, rfl⟩
          have hgg : gw < gk := by rw [hgk]; exact (Array.getElem?_eq_some_iff.1 Z13.out).1
          have f14 : Gr w13 w14 := fr_new ((Fr.refl (fun _ => False) w13).alloc _) f14' (Nat.le_refl _)
          rw [← hgk] at b14 ⊢
          have CM := Lib.hid (show CmSt w4 q gw gk dp v y vv yy (kAll v sm (osWant v ⟨7, og, s2, false, sm⟩ l').2).2 w14 u z l' a2 c2 u z l' a2 c2 from {
            bk := b14
            bm := blk_keep f14 M13.out (fun h => h)
            bz := blk_keep f14 Z13.out (fun h => h)
            bv := blk_keep f14 V13.out (fun h => h)
            rk := HUk.out _ (FrB.gr G13.out f14)
            rm := HUk.out _ (FrB.gr G13.out f14)
            ak := (HUk.out w4 (Fr.refl _ _)).new (fun k hk => by have := (Array.getElem?_eq_some_iff.1 V13.out).1; omega)
            am := (HUk.out w4 (Fr.refl _ _)).new (fun k hk => by have := (Array.getElem?_eq_some_iff.1 V13.out).1; omega)
            va := HV13.out.gr f14
            aa := ⟨fun hl q9 hq9 hk => by have h1 := HAPV.out.1 hl q9 hq9; have h2 := HV13.out.act.ltNE hl q9 hq9; rcases hk with hk | hk <;> omega, fun hl q9 hq9 hk => by have h1 := HAPV.out.2 hl q9 hq9; have h2 := HV13.out.pas.ltNE hl q9 hq9; rcases hk with hk | hk <;> omega⟩
            dr := D13.out.keep f14
            fr := FrB.gr G13.out f14 })
          have F14 := Lib.hid (Gr.trans F13.out f14)
          clear f14' f14 b14 hgk M13 Z13 V13 HV13 D13 G13 F13 GZ GY HAPV
          obtain ⟨ans, hans⟩ : ∃ b, b = osAns v ⟨7, og, s2, false, sm⟩ := ⟨_, rfl⟩
          have HANS := Lib.hid hans
          rw [← hans] at HA HB
          go_upto_region 24 with fail
          go_cut [166] from 160 to 166 (fun c wx => c = .bool ans ∧ w14 = wx)
          case first =>
            by_cases h1 : og = 9
            · subst h1
              have hd := Lib.hid (show ans = false by rw [hans]; unfold osAns; rw [HL.out.2.2.2.1]; rfl)
              go_wp2_with fail
              go_meet
              exact ⟨by rw [hd.out], rfl⟩
            · have hb9 : (og != 9) = true := by simpa using h1
              have hd := Lib.hid (show ans = decide (1 ≤ og) by rw [hans]; unfold osAns; rw [HL.out.2.2.2.1]; simp only; rw [hb9]; rfl)
              go_wp2_with fail
              go_meet
              exact ⟨by rw [hd.out], rfl⟩
          case rest =>
            obtain ⟨rfl, rfl⟩ := hcut
            clear hans
            have hHR := HR.out
            cases ans
            case false =>
              have hw0 : osWant v ⟨7, og, s2, false, sm⟩ l' = ([], l') := by unfold osWant; rw [← HANS.out]; rfl
              obtain rfl := HA.out rfl
              rw [hw0] at CM HVV
              simp only at CM HVV
              obtain ⟨DK, hDK⟩ : ∃ D, D = l' := ⟨_, rfl⟩
              have CM' := CM.out
              have HVV' := HVV.out
              clear CM HVV
              have HRK := Lib.hid (show ∀ x ∈ DK, 0 ≤ x ∧ x < 4294967296 by rw [hDK]; exact HR.out)
              have CM := Lib.hid (show CmSt w4 q gw gk dp v y vv yy (kAll v sm DK).2 w14 u z DK a2 c2 u z l' a2 c2 by rw [hDK]; exact CM')
              have HVV := Lib.hid (show vv = (kAll v sm DK).1 by rw [hDK]; exact HVV')
              clear CM' HVV' hDK hw0 HA HB HANS hHR
              go_upto_region 32 with fail
              go_loopw [23] (fun iv wr => ∃ (k : Nat) (uk : Vw) (zk : VwP) (dak : Option Addr) (dck : Nat) (um : Vw) (zm : VwP) (dam : Option Addr) (dcm : Nat), iv = .int .i64 k ∧ k ≤ sm.length ∧ CmSt w4 q gw gk dp v y vv yy (kAll v sm DK).2 wr uk zk (kAll v (sm.take k) DK).2 dak dck um zm (kAll v (sm.take k) l').2 dam dcm ∧ Like (kAll v (sm.take k) DK).1 uk ∧ Like (kAll v (sm.take k) l').1 um) (fun iv _ => sm.length - (intOf iv).toNat)
              case atStart => exact ⟨0, u, z, a2, c2, u, z, a2, c2, rfl, Nat.zero_le _, CM.out, HL.out.1, HL.out.1⟩
              case round =>
                clear CM
                obtain ⟨k, uk, zk, dak, dck, um, zm, dam, dcm, rfl, hk, hst, hlk, hlm⟩ := hrel
                have ST := Lib.hid hst
                have e1 := hst.rk.dr.le
                clear e1
                have j1 := hst.rk.act.le
                have j2 := hst.rk.act.max
                have j3 := hst.rk.pas.le
                have j4 := hst.rk.pas.max
                have j5 := hst.rm.act.le
                have j6 := hst.rm.act.max
                have j7 := hst.rm.pas.le
                have j8 := hst.rm.pas.max
                by_cases hlt : k < sm.length
                · have hsk := HSMk.out _ hst.fr
                  have hbsz : ∀ q9, a3 = some q9 → q9.block < W.heap.size := fun q9 h9 => HSB.out (fun e => by subst e; simp at hlt) q9 h9
                  obtain ⟨bs, os, rfl, hcs⟩ := hsk.int k hlt
                  have hbs : bs < W.heap.size := hbsz _ rfl
                  obtain ⟨xx, hxx⟩ : ∃ x, x = sm[k] := ⟨_, rfl⟩
                  rw [← hxx] at hcs
                  have s1 := kAll_snoc v (sm.take k) DK sm[k]
                  have s2' := kAll_snoc v (sm.take k) l' sm[k]
                  rw [← List.take_succ_eq_append_getElem hlt, ← hxx] at s1 s2'
                  have g1 := kAll_good (sm.take k) v DK HL.out.2.1
                  have g2 := kAll_good (sm.take k) v l' HL.out.2.1
                  have r1 := cm_range (sm.take k) v DK HRK.out
                  have r2 := cm_range (sm.take k) v l' HR.out
                  have K1 := like_know hlk g1 xx r1
                  have K2 := like_know hlm g2 xx r2
                  rw [← s1] at K1
                  rw [← s2'] at K2
                  have n1 := (like_len2 hlk g1).2
                  have n2 := (like_len2 hlm g2).2
                  have CRk := Lib.hid (fun w (h : RwAt w uk zk (kAll v (sm.take k) DK).2 dak dck) => refKnow_any uk zk xx (kAll v (sm.take k) DK).2 dak dck w h n1.1 n1.2 r1)
                  have CRm := Lib.hid (fun w (h : RwAt w um zm (kAll v (sm.take k) l').2 dam dcm) => refKnow_any um zm xx (kAll v (sm.take k) l').2 dam dcm w h n2.1 n2.2 r2)
                  unfold RwEnd at CRk CRm
                  have KK := Lib.hid (And.intro K1 K2)
                  clear s1 s2' g1 g2 r1 r2 K1 K2 n1 n2 hxx hsk hst hlk hlm
                  generalize (kAll v (sm.take k) DK).2 = d1 at *
                  generalize (kAll v (sm.take k) l').2 = d2 at *
                  generalize (rKnow uk xx d1).1 = uk' at *
                  generalize (rKnow uk xx d1).2 = d1' at *
                  generalize (rKnow um xx d2).1 = um' at *
                  generalize (rKnow um xx d2).2 = d2' at *
                  go_upto_region 34 with fail
                  haveI : Nonempty (WC (fun w => w.cell? ⟨bs, os + k, none⟩ = some (.int .i64 xx))) := ⟨⟨wr, hcs⟩⟩
                  have x0 : ∀ z' : WC (fun w => w.cell? ⟨bs, os + k, none⟩ = some (.int .i64 xx)), z'.val.cell? ⟨bs, os + k, none⟩ = some (.int .i64 xx) := fun z' => z'.ok
                  have ST1 := Lib.hid (ST.out.keep ((Fr.refl _ _).drew))
                  refine wp_region_lastO 6 [0, 5] [] [0, 1, 2, 3, 4, 5] (fun w' => ∃ z' : WC (fun w => w.cell? ⟨bs, os + k, none⟩ = some (.int .i64 xx)), w' = z'.val) (by kernel_rfl) (by kernel_rfl) (fun c a w d v h => by cases d <;> exact h) (fun c a w d v h => by cases d <;> exact h) ⟨⟨wr.drew, hcs⟩, rfl⟩ ?_
                  simp only [List.take]
                  refine wpT_e (by simp only [List.getElem?_toArray, List.getElem?_cons_zero] <;> rfl) (by rfl) ?_
                  refine wpList_load_mid (by rfl) 51 _ (by rfl) gk 0 (by rfl) (Array.toList (rwArr uk zk d1 dak dck)) _ (blk_range ST1.out.bk) Try.underlying51 rfl Try.infoRefView ?_
                  go_wp2_with fail
                  refine ⟨⟨⟨wr.drew, hcs⟩, rfl⟩, ?_⟩
                  try simp only [Act.put, List.setIfInBounds_toArray, List.set_cons_succ, List.set_cons_zero]
                  repeat (refine wpT_q (by simp only [List.getElem?_toArray, List.getElem?_cons_succ, List.getElem?_cons_zero] <;> rfl) (by rfl) (by rfl) ?_; go_big_quiet_step (fail); refine wpQuiet_nil ?_)
                  refine wpT_e (by simp only [List.getElem?_toArray, List.getElem?_cons_succ, List.getElem?_cons_zero] <;> rfl) (by rfl) ?_
                  go_wp2_with fail
                  refine (CRk.out _ ST1.out.rk).mono ?_
                  rintro e w21a ⟨zk', dak', dck', rfl, h3, k3, -, f3⟩
                  have ST2 := Lib.hid (ST1.out.keep f3)
                  have H3 := Lib.hid h3
                  have AU := Lib.hid (ST1.out.ak.next k3 (fun k9 hk9 => by have := ST1.out.lt; omega))
                  have G5 := Lib.hid (f3.cell (show wr.drew.cell? ⟨bs, os + k, none⟩ = some (.int .i64 xx) from hcs) (fun h => h))
                  clear h3 k3 f3 ST ST1 CRk
                  go_wp2_with fail
                  refine ⟨⟨⟨w21a, G5.out⟩, rfl⟩, ?_⟩
                  clear x0 this
                  refine wpT_nil ?_
                  simp only [lastQ, List.drop]
                  go_wp2_with (refine wpList_storeW (b := gk) (vs := rwArr uk' zk' d1' dak' dck') ST2.out.bk (by rfl) 51 _ _ (by rfl) (by rfl) (by rfl) rfl Try.infoRefView (by rw [← Array.all_toList]; rfl) ?_)
                  intro w21 f6 b6
                  have Sw21 := Lib.hid (ST2.out.storeK f6 hgq hgg HPX.out b6 H3.out AU.out)
                  have Cw21 := Lib.hid (f6.cell G5.out (fun hk => by have := hbs; simp only at hk; omega))
                  clear f6 b6 ST2 H3 AU G5
                  go_upto_region 35 with fail
                  haveI : Nonempty (WC (fun w => w.cell? ⟨bs, os + k, none⟩ = some (.int .i64 xx))) := ⟨⟨w21, Cw21.out⟩⟩
                  have x0 : ∀ z' : WC (fun w => w.cell? ⟨bs, os + k, none⟩ = some (.int .i64 xx)), z'.val.cell? ⟨bs, os + k, none⟩ = some (.int .i64 xx) := fun z' => z'.ok
                  have Sw211 := Lib.hid (Sw21.out.keep ((Fr.refl _ _).drew))
                  refine wp_region_lastO 6 [0, 5] [] [0, 1, 2, 3, 4, 5] (fun w' => ∃ z' : WC (fun w => w.cell? ⟨bs, os + k, none⟩ = some (.int .i64 xx)), w' = z'.val) (by kernel_rfl) (by kernel_rfl) (fun c a w d v h => by cases d <;> exact h) (fun c a w d v h => by cases d <;> exact h) ⟨⟨w21.drew, Cw21.out⟩, rfl⟩ ?_
                  simp only [List.take]
                  refine wpT_e (by simp only [List.getElem?_toArray, List.getElem?_cons_zero] <;> rfl) (by rfl) ?_
                  refine wpList_load_mid (by rfl) 51 _ (by rfl) (q + 1) 0 (by rfl) (Array.toList (rwArr um zm d2 dam dcm)) _ (blk_range Sw211.out.bm) Try.underlying51 rfl Try.infoRefView ?_
                  go_wp2_with fail
                  refine ⟨⟨⟨w21.drew, Cw21.out⟩, rfl⟩, ?_⟩
                  try simp only [Act.put, List.setIfInBounds_toArray, List.set_cons_succ, List.set_cons_zero]
                  repeat (refine wpT_q (by simp only [List.getElem?_toArray, List.getElem?_cons_succ, List.getElem?_cons_zero] <;> rfl) (by rfl) (by rfl) ?_; go_big_quiet_step (fail); refine wpQuiet_nil ?_)
                  refine wpT_e (by simp only [List.getElem?_toArray, List.getElem?_cons_succ, List.getElem?_cons_zero] <;> rfl) (by rfl) ?_
                  go_wp2_with fail
                  refine (CRm.out _ Sw211.out.rm).mono ?_
                  rintro e w22a ⟨zm', dam', dcm', rfl, h3, k3, -, f3⟩
                  have Sw212 := Lib.hid (Sw211.out.keep f3)
                  have H3 := Lib.hid h3
                  have AU := Lib.hid (Sw211.out.am.next k3 (fun k9 hk9 => by have := Sw211.out.lt; omega))
                  have G5 := Lib.hid (f3.cell (show w21.drew.cell? ⟨bs, os + k, none⟩ = some (.int .i64 xx) from Cw21.out) (fun h => h))
                  clear h3 k3 f3 Sw21 Sw211 CRm
                  go_wp2_with fail
                  refine ⟨⟨⟨w22a, G5.out⟩, rfl⟩, ?_⟩
                  clear x0 this
                  refine wpT_nil ?_
                  simp only [lastQ, List.drop]
                  go_wp2_with (refine wpList_storeW (b := (q + 1)) (vs := rwArr um' zm' d2' dam' dcm') Sw212.out.bm (by rfl) 51 _ _ (by rfl) (by rfl) (by rfl) rfl Try.infoRefView (by rw [← Array.all_toList]; rfl) ?_)
                  intro w22 f6 b6
                  have Sw22 := Lib.hid (Sw212.out.storeM f6 hgq hgg HPX.out b6 H3.out AU.out)
                  have Cw22 := Lib.hid (f6.cell G5.out (fun hk => by have := hbs; simp only at hk; omega))
                  clear f6 b6 Sw212 H3 AU G5
                  go_wp2_with fail
                  go_roundw
                  case rel =>
                    refine ⟨k + 1, uk', zk', dak', dck', um', zm', dam', dcm', by go_num, by omega, ?_, KK.out.1.1, KK.out.2.1⟩
                    rw [← KK.out.1.2, ← KK.out.2.2]
                    exact Sw22.out
                  case measure => simp [intOf]; omega
                · have hkM : sm.take k = sm := List.take_of_length_le (by omega)
                  rw [hkM] at ST hlk hlm
                  clear hst
                  have HLK := Lib.hid hlk
                  have HLM := Lib.hid hlm
                  clear hlk hlm hkM hk
                  obtain ⟨v', hv'⟩ : ∃ v', v' = (kAll v sm l').1 := ⟨_, rfl⟩
                  have HV' := Lib.hid hv'
                  have CO := Lib.hid (fun w (f : Gr wr w) (d9 : Nat) (hd9 : wr.heap.size ≤ d9) (hD : DrawAt w d9 l') => onMixed_any v y ⟨8, 0, 0, false, sm⟩ a3 c3 (.pointer (some ⟨d9, 0, none⟩)) l' w (HVk.out _ (FrB.gr ST.out.fr f)) (.inr ⟨d9, rfl, hD⟩) (VwSep.new HV.out (fun k9 hk9 => by unfold pblk at hk9; cases hk9; have := ST.out.lt; omega)) (HSMk.out _ (FrB.gr ST.out.fr f)) (fun hne q9 hq9 hk9 => by have h1 := HSB.out hne q9 hq9; unfold pblk at hk9; cases hk9; have := ST.out.lt; omega))
                  unfold VEnd at CO
                  simp only at CO
                  rw [← hv'] at CO
                  clear hv'
                  go_upto_region 36 with fail
                  haveI : Nonempty (WC (Gr wr)) := ⟨⟨wr, Fr.refl _ _⟩⟩
                  have z0 : ∀ z' : WC (Gr wr), z'.val.cell? ⟨q, 0, none⟩ = some (.int .i64 v.self) := fun z' => z'.ok.cell ((Bx.of_block ST.out.bv) 0 _ rfl) (fun h => h)
                  have z1 : ∀ z' : WC (Gr wr), z'.val.cell? ⟨q, 1, none⟩ = some (.slice y.aa v.act.length y.ac) := fun z' => z'.ok.cell ((Bx.of_block ST.out.bv) 1 _ rfl) (fun h => h)
                  have z2 : ∀ z' : WC (Gr wr), z'.val.cell? ⟨q, 2, none⟩ = some (.int .i64 v.am) := fun z' => z'.ok.cell ((Bx.of_block ST.out.bv) 2 _ rfl) (fun h => h)
                  have z3 : ∀ z' : WC (Gr wr), z'.val.cell? ⟨q, 3, none⟩ = some (.slice y.pa v.pas.length y.pc) := fun z' => z'.ok.cell ((Bx.of_block ST.out.bv) 3 _ rfl) (fun h => h)
                  have z4 : ∀ z' : WC (Gr wr), z'.val.cell? ⟨q, 4, none⟩ = some (.int .i64 v.pm) := fun z' => z'.ok.cell ((Bx.of_block ST.out.bv) 4 _ rfl) (fun h => h)
                  go_cut [24] from 216 to 221 (fun rv wx => ∃ (g2 : Nat) (y' : VwP), rv = .pointer (some ⟨g2, 0, none⟩) ∧ wr.heap.size ≤ g2 ∧ wx.heap[g2]? = some (.cells (v'.arr y') 29 (0, 0)) ∧ VwAt wx v' y' ∧ Gr wr wx)
                  case first =>
                    refine wp_region_plan [4, 5, 6, 7] (Plan.seq [0, 1, 2, 3] (.fork 4 6 (.fork 5 6 (Plan.seq [6, 7] .done) (Plan.seq [5, 7] .done)) (Plan.seq [4, 5, 7] .done))) (fun w' => ∃ z' : WC (Gr wr), w' = z'.val) (by kernel_rfl) (by kernel_rfl) (fun c a w d v h => by cases d <;> exact h) (fun c a w d v h => by cases d <;> exact h) ⟨⟨wr.drew, (Fr.refl _ _).drew⟩, rfl⟩ ?_
                    simp only [Plan.seq, List.foldr]
                    refine wpV_q (by simp only [List.getElem?_toArray, List.getElem?_cons_zero] <;> rfl) (by rfl) (by rfl) ?_
                    go_big_quiet_step (fail)
                    refine wpQuiet_nil ?_
                    repeat (refine wpV_q (by simp only [List.getElem?_toArray, List.getElem?_cons_succ, List.getElem?_cons_zero] <;> rfl) (by rfl) (by rfl) ?_; go_big_quiet_step (fail); refine wpQuiet_nil ?_)
                    refine wpV_fork (by simp only [List.getElem?_toArray, List.getElem?_cons_succ, List.getElem?_cons_zero] <;> rfl) (by simp only [List.getElem?_toArray, List.getElem?_cons_succ, List.getElem?_cons_zero] <;> rfl) ?_ ?_
                    · go_wp2_with fail
                      refine (CD.out _ (FrB.gr ST.out.fr ((Fr.refl _ _).drew))).mono ?_
                      rintro e w21 ⟨d9, rfl, hd9, hdd, hbl⟩
                      have hge9 : wr.heap.size ≤ (wr.drew).heap.size := Fr.size (S := fun _ => False) ((Fr.refl _ _).drew)
                      have Fw21 : Gr wr w21 := Gr.trans ((Fr.refl _ _).drew) (Gr.of_below hbl)
                      have hdl : wr.heap.size ≤ d9 := by have h0 := hd9; have h1 := hge9; exact Nat.le_trans h1 h0
                      clear hbl hge9 hd9
                      go_wp2_with fail
                      refine ⟨⟨⟨w21, Fw21⟩, rfl⟩, ?_⟩
                      refine wpV_fork (by simp only [List.getElem?_toArray, List.getElem?_cons_succ, List.getElem?_cons_zero] <;> rfl) (by simp only [List.getElem?_toArray, List.getElem?_cons_succ, List.getElem?_cons_zero] <;> rfl) ?_ ?_
                      · go_wp2_with fail
                        refine (CO.out _ Fw21 d9 hdl hdd).mono ?_
                        rintro e w22 ⟨y', rfl, h20, -, f20, k20⟩
                        have Fw22 : Gr wr w22 := Fr.trans Fw21 f20 (fun k9 hk9 => .inr (by unfold pblk at hk9; cases hk9; exact hdl))
                        go_wp2_with fail
                        refine ⟨⟨⟨w22, Fw22⟩, rfl⟩, ?_⟩
                        refine wpV_e (by simp only [List.getElem?_toArray, List.getElem?_cons_succ, List.getElem?_cons_zero] <;> rfl) (by rfl) ?_
                        go_wp2_with fail
                        obtain ⟨w23, hw23⟩ : ∃ w9, w9 = w22.alloc (.cells viewZ 29) := ⟨_, rfl⟩
                        have f21 : Gr w22 w23 := by rw [hw23]; exact (Fr.refl _ _).alloc _
                        have bw23 : w23.heap[w22.heap.size]? = some (.cells viewZ 29 (0, 0)) := by rw [hw23]; rw [heap_alloc_if, if_pos rfl]
                        rw [← hw23]
                        have Fw23 : Gr wr w23 := Gr.trans Fw22 f21
                        clear hw23
                        refine ⟨⟨⟨w23, Fw23⟩, rfl⟩, ?_⟩
                        refine wpV_e (by simp only [List.getElem?_toArray, List.getElem?_cons_succ, List.getElem?_cons_zero] <;> rfl) (by rfl) ?_
                        have hg22 := Fw22.size
                        go_wp2_with (refine wpList_storeW (b := w22.heap.size) (vs := v'.arr y') bw23 (by rfl) 29 _ _ (by rfl) (by rfl) (by rfl) rfl Try.infoView (by rw [← Array.all_toList]; rfl) ?_)
                        intro w24 f24 b24
                        refine wpList_nil ?_
                        have F24 : Gr wr w24 := Fr.trans Fw23 f24 (fun k9 hk9 => .inr (by subst hk9; exact hg22))
                        refine ⟨⟨⟨w24, F24⟩, rfl⟩, ?_⟩
                        have H22 := Lib.hid (And.intro hg22 (And.intro b24 (And.intro ((h20.gr f21).keepA f24 (VwApart.new h20 (fun k9 h9 => by subst h9; exact Nat.le_refl _))) F24)))
                        clear Fw21 Fw22 Fw23 f21 f24 b24 bw23 h20 k20 f20 hdl hdd F24 hg22
                        clear z0 z1 z2 z3 z4 this
                        refine wpV_done ?_
                        go_wp2_with fail
                        go_meet
                        exact ⟨_, y', rfl, H22.out.1, H22.out.2.1, H22.out.2.2.1, H22.out.2.2.2⟩
                      · go_wp2_with fail
                        obtain ⟨w22, hw22⟩ : ∃ w9, w9 = w21.alloc (.cells viewZ 29) := ⟨_, rfl⟩
                        have f21 : Gr w21 w22 := by rw [hw22]; exact (Fr.refl _ _).alloc _
                        have bw22 : w22.heap[w21.heap.size]? = some (.cells viewZ 29 (0, 0)) := by rw [hw22]; rw [heap_alloc_if, if_pos rfl]
                        rw [← hw22]
                        have Fw22 : Gr wr w22 := Gr.trans Fw21 f21
                        clear hw22
                        refine ⟨⟨⟨w22, Fw22⟩, rfl⟩, ?_⟩
                        have hg22 := Fw21.size
                        have hlt9 : d9 < w21.heap.size := hdd.lt
                        have hdd := hdd.keep f21 (fun _ _ h => h)
                        have hbd : d9 ≠ w21.heap.size := Nat.ne_of_lt hlt9
                        have hlt8 : w21.heap.size < w22.heap.size := (Array.getElem?_eq_some_iff.1 bw22).1
                        clear hlt9
                        refine wpV_e (by simp only [List.getElem?_toArray, List.getElem?_cons_succ, List.getElem?_cons_zero] <;> rfl) (by rfl) ?_
                        go_wp2_with fail
                        refine (CO.out _ Fw22 d9 hdl hdd).mono ?_
                        rintro e w23 ⟨y', rfl, h20, -, f20, k20⟩
                        have Fw23 : Gr wr w23 := Fr.trans Fw22 f20 (fun k9 hk9 => .inr (by unfold pblk at hk9; cases hk9; exact hdl))
                        have bw23 := blk_keep f20 bw22 (fun hk9 => by unfold pblk at hk9; cases hk9; exact absurd rfl hbd)
                        clear bw22
                        go_wp2_with fail
                        refine ⟨⟨⟨w23, Fw23⟩, rfl⟩, ?_⟩
                        refine wpV_e (by simp only [List.getElem?_toArray, List.getElem?_cons_succ, List.getElem?_cons_zero] <;> rfl) (by rfl) ?_
                        go_wp2_with (refine wpList_storeW (b := w21.heap.size) (vs := v'.arr y') bw23 (by rfl) 29 _ _ (by rfl) (by rfl) (by rfl) rfl Try.infoView (by rw [← Array.all_toList]; rfl) ?_)
                        intro w24 f24 b24
                        refine wpList_nil ?_
                        have F24 : Gr wr w24 := Fr.trans Fw23 f24 (fun k9 hk9 => .inr (by subst hk9; exact hg22))
                        refine ⟨⟨⟨w24, F24⟩, rfl⟩, ?_⟩
                        have H22 := Lib.hid (And.intro hg22 (And.intro b24 (And.intro (h20.keepA f24 ((VwApart.new (HVk.out _ ST.out.fr) (fun k9 h9 => by subst h9; exact hg22)).next k20 (fun k9 h9 => by subst h9; exact hlt8))) F24)))
                        clear Fw21 Fw22 Fw23 f21 f24 b24 bw23 h20 k20 f20 hdl hdd F24 hg22
                        clear z0 z1 z2 z3 z4 this
                        refine wpV_done ?_
                        go_wp2_with fail
                        go_meet
                        exact ⟨_, y', rfl, H22.out.1, H22.out.2.1, H22.out.2.2.1, H22.out.2.2.2⟩
                    · go_wp2_with fail
                      obtain ⟨w21, hw21⟩ : ∃ w9, w9 = (wr.alloc (.cells viewZ 29)).drew := ⟨_, rfl⟩
                      have f21 : Gr wr w21 := by rw [hw21]; exact ((Fr.refl _ _).alloc _).drew
                      have bw21 : w21.heap[wr.heap.size]? = some (.cells viewZ 29 (0, 0)) := by rw [hw21]; show (wr.alloc (.cells viewZ 29)).heap[wr.heap.size]? = _; rw [heap_alloc_if, if_pos rfl]
                      rw [← hw21]
                      have Fw21 : Gr wr w21 := Gr.trans (Fr.refl _ _) f21
                      clear hw21
                      refine ⟨⟨⟨w21, Fw21⟩, rfl⟩, ?_⟩
                      have hg22 := Nat.le_refl wr.heap.size
                      refine wpV_e (by simp only [List.getElem?_toArray, List.getElem?_cons_succ, List.getElem?_cons_zero] <;> rfl) (by rfl) ?_
                      go_wp2_with fail
                      refine (CD.out _ (FrB.gr ST.out.fr Fw21)).mono ?_
                      rintro e w22 ⟨d9, rfl, hd9, hdd, hbl⟩
                      have hge9 : wr.heap.size ≤ (w21).heap.size := Fr.size (S := fun _ => False) Fw21
                      have Fw22 : Gr wr w22 := Gr.trans Fw21 (Gr.of_below hbl)
                      have hbd : d9 ≠ wr.heap.size := by have h1 := (Array.getElem?_eq_some_iff.1 bw21).1; omega
                      have bw22 := blk_keep (Gr.of_below hbl) bw21 (fun h => h)
                      have hlt8 : wr.heap.size < w22.heap.size := (Array.getElem?_eq_some_iff.1 bw22).1
                      clear bw21
                      have hdl : wr.heap.size ≤ d9 := by have h0 := hd9; have h1 := hge9; exact Nat.le_trans h1 h0
                      clear hbl hge9 hd9
                      go_wp2_with fail
                      refine ⟨⟨⟨w22, Fw22⟩, rfl⟩, ?_⟩
                      refine wpV_e (by simp only [List.getElem?_toArray, List.getElem?_cons_succ, List.getElem?_cons_zero] <;> rfl) (by rfl) ?_
                      go_wp2_with fail
                      refine (CO.out _ Fw22 d9 hdl hdd).mono ?_
                      rintro e w23 ⟨y', rfl, h20, -, f20, k20⟩
                      have Fw23 : Gr wr w23 := Fr.trans Fw22 f20 (fun k9 hk9 => .inr (by unfold pblk at hk9; cases hk9; exact hdl))
                      have bw23 := blk_keep f20 bw22 (fun hk9 => by unfold pblk at hk9; cases hk9; exact absurd rfl hbd)
                      clear bw22
                      go_wp2_with fail
                      refine ⟨⟨⟨w23, Fw23⟩, rfl⟩, ?_⟩
                      refine wpV_e (by simp only [List.getElem?_toArray, List.getElem?_cons_succ, List.getElem?_cons_zero] <;> rfl) (by rfl) ?_
                      go_wp2_with (refine wpList_storeW (b := wr.heap.size) (vs := v'.arr y') bw23 (by rfl) 29 _ _ (by rfl) (by rfl) (by rfl) rfl Try.infoView (by rw [← Array.all_toList]; rfl) ?_)
                      intro w24 f24 b24
                      refine wpList_nil ?_
                      have F24 : Gr wr w24 := Fr.trans Fw23 f24 (fun k9 hk9 => .inr (by subst hk9; exact hg22))
                      refine ⟨⟨⟨w24, F24⟩, rfl⟩, ?_⟩
                      have H22 := Lib.hid (And.intro hg22 (And.intro b24 (And.intro (h20.keepA f24 ((VwApart.new (HVk.out _ ST.out.fr) (fun k9 h9 => by subst h9; exact Nat.le_refl _)).next k20 (fun k9 h9 => by subst h9; exact hlt8))) F24)))
                      clear Fw21 Fw22 Fw23 f21 f24 b24 bw23 h20 k20 f20 hdl hdd F24 hg22
                      clear z0 z1 z2 z3 z4 this
                      refine wpV_done ?_
                      go_wp2_with fail
                      go_meet
                      exact ⟨_, y', rfl, H22.out.1, H22.out.2.1, H22.out.2.2.1, H22.out.2.2.2⟩
                  case rest =>
                    obtain ⟨g2, y', rfl, hg2, bg2, hv2, f25⟩ := hcut
                    generalize wc = w25 at *
                    have ST2 := Lib.hid (ST.out.keep f25)
                    have BG := Lib.hid bg2
                    have HV2 := Lib.hid hv2
                    have gK := kAll_good sm v DK HL.out.2.1
                    have sK := kAll_sane sm v DK HL.out.2.1 HL.out.2.2.1
                    have gM := kAll_good sm v l' HL.out.2.1
                    have sM := kAll_sane sm v l' HL.out.2.1 HL.out.2.2.1
                    have nK := (like_len2 HLK.out gK).2.1
                    have nM := (like_len2 HLM.out gM).2.1
                    rw [← HVV.out] at gK sK
                    have HLK2 := HLK.out
                    rw [← HVV.out] at HLK2
                    have HLM2 := HLM.out
                    rw [← HV'.out] at gM sM HLM2
                    have CA1 := Lib.hid (fun w (f : Gr w25 w) => setAll_any yy.pa yy.pc vv.pas vv.pm w (ST2.out.va.gr f).pas gK.pas)
                    have CA2 := Lib.hid (fun w (f : Gr w25 w) => setAll_any y'.pa y'.pc v'.pas v'.pm w (HV2.out.gr f).pas gM.pas)
                    have CS1 := Lib.hid (fun w (f : Gr w25 w) => refSorted_sl zk.pa zk.pc uk.pas vv.pas w (ST2.out.rk.gr f).pas HLK2.pas gK.pas.le nK)
                    have CS2 := Lib.hid (fun w (f : Gr w25 w) => refSorted_sl zm.pa zm.pc um.pas v'.pas w (ST2.out.rm.gr f).pas HLM2.pas gM.pas.le nM)
                    have CN1 := Lib.hid (fun w (f : Gr w25 w) => viewSane_any vv yy w (ST2.out.va.gr f))
                    have CN2 := Lib.hid (fun w (f : Gr w25 w) => viewSane_any v' y' w (HV2.out.gr f))
                    rw [(vSane_iff vv).2 sK] at CN1
                    rw [(vSane_iff v').2 sM] at CN2
                    unfold RowOut at CS1 CS2
                    obtain ⟨DL, hDL⟩ : ∃ D, D = (kAll v sm DK).2 := ⟨_, rfl⟩
                    rw [← hDL] at ST2
                    have LE := Lib.hid (fun w (f : Gr w25 w) => leftV_any dp DL w (ST2.out.dr.keep f) HDD.out)
                    have hbb : ((DL.length : Int) == (DL.length : Int)) = true := by simp
                    have jk3 := ST2.out.rk.dr.le
                    have jk4 := ST2.out.rk.dr.max
                    clear z0 z1 z2 z3 z4 this bg2 hv2 f25 ST CO gK sK gM sM nK nM HLK HLM HLK2 HLM2 hDL
                    go_upto_region 37 with fail
                    haveI : Nonempty (WC (Gr w25)) := ⟨⟨w25, Fr.refl _ _⟩⟩
                    have z0 : ∀ z' : WC (Gr w25), z'.val.cell? ⟨gw, 0, none⟩ = some (.int .i64 vv.self) := fun z' => z'.ok.cell ((Bx.of_block ST2.out.bz) 0 _ rfl) (fun h => h)
                    have z1 : ∀ z' : WC (Gr w25), z'.val.cell? ⟨gw, 1, none⟩ = some (.slice yy.aa vv.act.length yy.ac) := fun z' => z'.ok.cell ((Bx.of_block ST2.out.bz) 1 _ rfl) (fun h => h)
                    have z2 : ∀ z' : WC (Gr w25), z'.val.cell? ⟨gw, 2, none⟩ = some (.int .i64 vv.am) := fun z' => z'.ok.cell ((Bx.of_block ST2.out.bz) 2 _ rfl) (fun h => h)
                    have z3 : ∀ z' : WC (Gr w25), z'.val.cell? ⟨gw, 3, none⟩ = some (.slice yy.pa vv.pas.length yy.pc) := fun z' => z'.ok.cell ((Bx.of_block ST2.out.bz) 3 _ rfl) (fun h => h)
                    have z4 : ∀ z' : WC (Gr w25), z'.val.cell? ⟨gw, 4, none⟩ = some (.int .i64 vv.pm) := fun z' => z'.ok.cell ((Bx.of_block ST2.out.bz) 4 _ rfl) (fun h => h)
                    have y0 : ∀ z' : WC (Gr w25), z'.val.cell? ⟨g2, 0, none⟩ = some (.int .i64 v'.self) := fun z' => z'.ok.cell ((Bx.of_block BG.out) 0 _ rfl) (fun h => h)
                    have y1 : ∀ z' : WC (Gr w25), z'.val.cell? ⟨g2, 1, none⟩ = some (.slice y'.aa v'.act.length y'.ac) := fun z' => z'.ok.cell ((Bx.of_block BG.out) 1 _ rfl) (fun h => h)
                    have y2 : ∀ z' : WC (Gr w25), z'.val.cell? ⟨g2, 2, none⟩ = some (.int .i64 v'.am) := fun z' => z'.ok.cell ((Bx.of_block BG.out) 2 _ rfl) (fun h => h)
                    have y3 : ∀ z' : WC (Gr w25), z'.val.cell? ⟨g2, 3, none⟩ = some (.slice y'.pa v'.pas.length y'.pc) := fun z' => z'.ok.cell ((Bx.of_block BG.out) 3 _ rfl) (fun h => h)
                    have y4 : ∀ z' : WC (Gr w25), z'.val.cell? ⟨g2, 4, none⟩ = some (.int .i64 v'.pm) := fun z' => z'.ok.cell ((Bx.of_block BG.out) 4 _ rfl) (fun h => h)
                    have k2 : ∀ z' : WC (Gr w25), z'.val.cell? ⟨gk, 2, none⟩ = some (.slice zk.pa uk.pas.length zk.pc) := fun z' => z'.ok.cell ((Bx.of_block ST2.out.bk) 2 _ rfl) (fun h => h)
                    have k5 : ∀ z' : WC (Gr w25), z'.val.cell? ⟨gk, 5, none⟩ = some (.slice dak DL.length dck) := fun z' => z'.ok.cell ((Bx.of_block ST2.out.bk) 5 _ rfl) (fun h => h)
                    have m2 : ∀ z' : WC (Gr w25), z'.val.cell? ⟨(q + 1), 2, none⟩ = some (.slice zm.pa um.pas.length zm.pc) := fun z' => z'.ok.cell ((Bx.of_block ST2.out.bm) 2 _ rfl) (fun h => h)
                    refine wp_region_plan [2, 5, 6, 9, 18, 21, 22, 26, 30] (Plan.seq [0, 1, 2, 3, 4, 5, 6, 7, 8, 9, 10, 11, 12, 13, 14, 15, 16, 17, 18, 19, 20, 21, 22, 23, 24, 25, 26, 27, 28, 29, 30, 31, 32] .done) (fun w' => ∃ z' : WC (Gr w25), w' = z'.val) (by kernel_rfl) (by kernel_rfl) (fun c a w d v h => by cases d <;> exact h) (fun c a w d v h => by cases d <;> exact h) ⟨⟨w25.drew, (Fr.refl _ _).drew⟩, rfl⟩ ?_
                    simp only [Plan.seq, List.foldr]
                    refine wpV_q (by simp only [List.getElem?_toArray, List.getElem?_cons_zero] <;> rfl) (by rfl) (by rfl) ?_
                    go_big_quiet_step (fail)
                    refine wpQuiet_nil ?_
                    repeat (refine wpV_q (by simp only [List.getElem?_toArray, List.getElem?_cons_succ, List.getElem?_cons_zero] <;> rfl) (by rfl) (by rfl) ?_; go_big_quiet_step (fail); refine wpQuiet_nil ?_)
                    refine wpV_e (by simp only [List.getElem?_toArray, List.getElem?_cons_succ, List.getElem?_cons_zero] <;> rfl) (by rfl) ?_
                    go_wp2_with fail
                    refine (CA1.out _ ((Fr.refl _ _).drew)).mono ?_
                    rintro e w30 ⟨vA, rfl, ho, hb9⟩
                    obtain ⟨aA, cA, rfl, h4, -⟩ := SlA.of_own ho
                    have g9 := Gr.of_below hb9
                    have Fw30 := Gr.trans ((Fr.refl _ _).drew) g9
                    have HaA := Lib.hid h4
                    clear ho hb9 h4 g9
                    go_wp2_with fail
                    refine ⟨⟨⟨w30, Fw30⟩, rfl⟩, ?_⟩
                    repeat (refine wpV_q (by simp only [List.getElem?_toArray, List.getElem?_cons_succ, List.getElem?_cons_zero] <;> rfl) (by rfl) (by rfl) ?_; go_big_quiet_step (fail); refine wpQuiet_nil ?_)
                    refine wpV_e (by simp only [List.getElem?_toArray, List.getElem?_cons_succ, List.getElem?_cons_zero] <;> rfl) (by rfl) ?_
                    go_wp2_with fail
                    refine (CS1.out _ Fw30).mono ?_
                    rintro e w31 ⟨aB, cB, rfl, h5, g9⟩
                    have Fw31 := Gr.trans Fw30 g9
                    have SMw31 := Lib.hid (refSame_any aA cA vv.pas aB cB vv.pas _ (HaA.out.keep g9 (fun _ _ h => h)) h5)
                    rw [(same_iff vv.pas vv.pas).2 rfl] at SMw31
                    clear h5 g9 HaA
                    go_wp2_with fail
                    refine ⟨⟨⟨w31, Fw31⟩, rfl⟩, ?_⟩
                    repeat (refine wpV_q (by simp only [List.getElem?_toArray, List.getElem?_cons_succ, List.getElem?_cons_zero] <;> rfl) (by rfl) (by rfl) ?_; go_big_quiet_step (fail); refine wpQuiet_nil ?_)
                    refine wpV_e (by simp only [List.getElem?_toArray, List.getElem?_cons_succ, List.getElem?_cons_zero] <;> rfl) (by rfl) ?_
                    go_wp2_with fail
                    refine SMw31.out.mono ?_
                    rintro e w31b ⟨rfl, q9, hq9⟩
                    have Fw31b : Gr w25 w31b := by rw [hq9]; exact Fw31.drewN q9
                    clear hq9 SMw31
                    go_wp2_with fail
                    refine ⟨⟨⟨w31b, Fw31b⟩, rfl⟩, ?_⟩
                    repeat (refine wpV_q (by simp only [List.getElem?_toArray, List.getElem?_cons_succ, List.getElem?_cons_zero] <;> rfl) (by rfl) (by rfl) ?_; go_big_quiet_step (fail); refine wpQuiet_nil ?_)
                    refine wpV_e (by simp only [List.getElem?_toArray, List.getElem?_cons_succ, List.getElem?_cons_zero] <;> rfl) (by rfl) ?_
                    go_wp2_with fail
                    refine (LE.out _ Fw31b).mono ?_
                    rintro e w32 ⟨rfl, hw32⟩
                    have Fw32 : Gr w25 w32 := hw32 ▸ Fw31b
                    clear hw32
                    go_wp2_with fail
                    refine ⟨⟨⟨w32, Fw32⟩, rfl⟩, ?_⟩
                    repeat (refine wpV_q (by simp only [List.getElem?_toArray, List.getElem?_cons_succ, List.getElem?_cons_zero] <;> rfl) (by rfl) (by rfl) ?_; go_big_quiet_step (fail); refine wpQuiet_nil ?_)
                    refine wpV_e (by simp only [List.getElem?_toArray, List.getElem?_cons_succ, List.getElem?_cons_zero] <;> rfl) (by rfl) ?_
                    go_wp2_with fail
                    refine (CA2.out _ Fw32).mono ?_
                    rintro e w33 ⟨vA, rfl, ho, hb9⟩
                    obtain ⟨aC, cC, rfl, h4, -⟩ := SlA.of_own ho
                    have g9 := Gr.of_below hb9
                    have Fw33 := Gr.trans Fw32 g9
                    have HaC := Lib.hid h4
                    clear ho hb9 h4 g9
                    go_wp2_with fail
                    refine ⟨⟨⟨w33, Fw33⟩, rfl⟩, ?_⟩
                    repeat (refine wpV_q (by simp only [List.getElem?_toArray, List.getElem?_cons_succ, List.getElem?_cons_zero] <;> rfl) (by rfl) (by rfl) ?_; go_big_quiet_step (fail); refine wpQuiet_nil ?_)
                    refine wpV_e (by simp only [List.getElem?_toArray, List.getElem?_cons_succ, List.getElem?_cons_zero] <;> rfl) (by rfl) ?_
                    go_wp2_with fail
                    refine (CS2.out _ Fw33).mono ?_
                    rintro e w34 ⟨aD, cD, rfl, h5, g9⟩
                    have Fw34 := Gr.trans Fw33 g9
                    have SMw34 := Lib.hid (refSame_any aC cC v'.pas aD cD v'.pas _ (HaC.out.keep g9 (fun _ _ h => h)) h5)
                    rw [(same_iff v'.pas v'.pas).2 rfl] at SMw34
                    clear h5 g9 HaC
                    go_wp2_with fail
                    refine ⟨⟨⟨w34, Fw34⟩, rfl⟩, ?_⟩
                    repeat (refine wpV_q (by simp only [List.getElem?_toArray, List.getElem?_cons_succ, List.getElem?_cons_zero] <;> rfl) (by rfl) (by rfl) ?_; go_big_quiet_step (fail); refine wpQuiet_nil ?_)
                    refine wpV_e (by simp only [List.getElem?_toArray, List.getElem?_cons_succ, List.getElem?_cons_zero] <;> rfl) (by rfl) ?_
                    go_wp2_with fail
                    refine SMw34.out.mono ?_
                    rintro e w34b ⟨rfl, q9, hq9⟩
                    have Fw34b : Gr w25 w34b := by rw [hq9]; exact Fw34.drewN q9
                    clear hq9 SMw34
                    go_wp2_with fail
                    refine ⟨⟨⟨w34b, Fw34b⟩, rfl⟩, ?_⟩
                    repeat (refine wpV_q (by simp only [List.getElem?_toArray, List.getElem?_cons_succ, List.getElem?_cons_zero] <;> rfl) (by rfl) (by rfl) ?_; go_big_quiet_step (fail); refine wpQuiet_nil ?_)
                    refine wpV_e (by simp only [List.getElem?_toArray, List.getElem?_cons_succ, List.getElem?_cons_zero] <;> rfl) (by rfl) ?_
                    go_wp2_with fail
                    refine (CN1.out _ Fw34b).mono ?_
                    rintro e w35 ⟨rfl, g9⟩
                    have Fw35 : Gr w25 w35 := Gr.trans Fw34b g9
                    clear g9
                    go_wp2_with fail
                    refine ⟨⟨⟨w35, Fw35⟩, rfl⟩, ?_⟩
                    repeat (refine wpV_q (by simp only [List.getElem?_toArray, List.getElem?_cons_succ, List.getElem?_cons_zero] <;> rfl) (by rfl) (by rfl) ?_; go_big_quiet_step (fail); refine wpQuiet_nil ?_)
                    refine wpV_e (by simp only [List.getElem?_toArray, List.getElem?_cons_succ, List.getElem?_cons_zero] <;> rfl) (by rfl) ?_
                    go_wp2_with fail
                    refine (CN2.out _ Fw35).mono ?_
                    rintro e w36 ⟨rfl, g9⟩
                    have Fw36 : Gr w25 w36 := Gr.trans Fw35 g9
                    clear g9
                    go_wp2_with fail
                    refine ⟨⟨⟨w36, Fw36⟩, rfl⟩, ?_⟩
                    repeat (refine wpV_q (by simp only [List.getElem?_toArray, List.getElem?_cons_succ, List.getElem?_cons_zero] <;> rfl) (by rfl) (by rfl) ?_; go_big_quiet_step (fail); refine wpQuiet_nil ?_)
                    refine wpV_done ?_
                    have F37 := Lib.hid Fw36
                    clear z0 z1 z2 z3 z4 y0 y1 y2 y3 y4 k2 k5 m2 this
                    go_wp2_with fail
                    go_ret
                    exact ⟨rfl, FW.out _ (FrB.gr ST2.out.fr F37.out)⟩
            case true =>
              have hw1 : osWant v ⟨7, og, s2, false, sm⟩ l' = someS v.pas.length l' v.pas sm.length := by unfold osWant; rw [← HANS.out]; rfl
              obtain ⟨go, aw, cw, rfl, hgo, bgo, hW, hWn⟩ := HB.out rfl
              rw [hw1] at CM HVV bgo hW
              try simp only at CM
              try simp only at HVV
              try simp only at bgo
              try simp only at hW
              have CR := Lib.hid (refMixAnswer_any (sm.length : Int) (by omega) u z l' a2 c2 w14 (HUk.out _ CM.out.fr) HR.out (by omega) v HL.out.1 HL.out.2.1)
              unfold SmpOut at CR
              have HRK := Lib.hid (show ∀ x ∈ (someS v.pas.length l' v.pas (sm.length : Int)).2, 0 ≤ x ∧ x < 4294967296 from (someS_range HR.out).1)
              generalize (someS v.pas.length l' v.pas (sm.length : Int)).1 = want at *
              generalize (someS v.pas.length l' v.pas (sm.length : Int)).2 = DK at *
              have BO10 := Lib.hid bgo
              have TW10 := Lib.hid hW
              have hgog : go < gw := by rw [HGW.out]; exact (Array.getElem?_eq_some_iff.1 bgo).1
              clear hw1 hgo bgo hW hWn HA HB HANS hHR
              go_upto_region 26 with fail
              refine wp_region_lit ?_
              refine wpList_load_mid (by rfl) 51 _ (by rfl) (q + 1) 0 (by rfl) (Array.toList (rwArr u z l' a2 c2)) _ (blk_range CM.out.bm) Try.underlying51 rfl Try.infoRefView ?_
              go_wp2_with fail
              refine CR.out.mono ?_
              rintro e w15 ⟨aN, cN, da9, dc9, rfl, hN, hNn, hR9, -, f15⟩
              have CM15 := Lib.hid (CM.out.keep f15)
              have HN15 := Lib.hid hN
              have HNn := Lib.hid hNn
              have HR9 := Lib.hid hR9
              have F15 := Lib.hid (Gr.trans F14.out f15)
              have hgk14 := CM.out.lt.1
              clear hN hNn hR9 f15 CM CR
              go_wp2_with (refine wpList_storeW (b := gk) (vs := rwArr u z DK da9 dc9) CM15.out.bk (by rfl) 51 _ _ (by rfl) (by rfl) (by rfl) rfl Try.infoRefView (by rw [← Array.all_toList]; rfl) ?_)
              intro w16 f16 b16
              have CM := Lib.hid (CM15.out.storeK f16 hgq hgg HPX.out b16 HR9.out CM15.out.ak)
              have BO16 := Lib.hid (blk_keep f16 (blk_keep F15.out BO10.out (fun h => h)) (by omega))
              have TW16 := Lib.hid ((show SlA _ _ _ _ (ints want) from TW10.out.keep F15.out (fun _ _ h => h)).keepNE f16 (fun hl q9 hq9 hk => by have h1 := TW10.out.ltNE hl q9 hq9; have h2 := HGW.out; omega))
              have TN16 := Lib.hid (HN15.out.keep f16 (fun q9 hq9 hk => by have h1 := HNn.out q9 hq9; omega))
              have t1 := TW10.out.le
              have t2 := TW10.out.max
              have t3 := HN15.out.le
              have t4 := HN15.out.max
              clear f16 b16 CM15 HN15 HNn HR9 BO10 TW10 F14 hgk14
              have SQ := Lib.hid (fun w (f : Gr w16 w) => sameQ_any ⟨8, 0, 0, false, want⟩ aw aN cw cN w (TW16.out.keep f (fun _ _ h => h)) (TN16.out.keep f (fun _ _ h => h)))
              go_upto_region 27 with fail
              have o0 : w16.cell? ⟨go, 0, none⟩ = some (.int .i64 og) := (Bx.of_block BO16.out) 0 _ rfl
              have o1 : w16.cell? ⟨go, 1, none⟩ = some (.int .i64 8) := (Bx.of_block BO16.out) 1 _ rfl
              have o2 : w16.cell? ⟨go, 2, none⟩ = some (.int .i64 0) := (Bx.of_block BO16.out) 2 _ rfl
              have o3 : w16.cell? ⟨go, 3, none⟩ = some (.int .i64 0) := (Bx.of_block BO16.out) 3 _ rfl
              have o4 : w16.cell? ⟨go, 4, none⟩ = some (.bool false) := (Bx.of_block BO16.out) 4 _ rfl
              have o5 : w16.cell? ⟨go, 5, none⟩ = some (.slice aw want.length cw) := (Bx.of_block BO16.out) 5 _ rfl
              have o6 : w16.cell? ⟨go, 6, none⟩ = some (.slice none 0 0) := (Bx.of_block BO16.out) 6 _ rfl
              have o7 : w16.cell? ⟨go, 7, none⟩ = some (.slice none 0 0) := (Bx.of_block BO16.out) 7 _ rfl
              go_cut [194] from 174 to 194 (fun c wx => c = .bool false ∧ Gr w16 wx)
              case first =>
                go_wp2_with fail
                refine (SQ.out _ (Fr.refl _ _)).mono ?_
                rintro e w17 ⟨rfl, f17⟩
                have F17 := Lib.hid f17
                clear f17 SQ
                go_wp2_with fail
                go_meet
                exact ⟨rfl, F17.out⟩
              case rest =>
                obtain ⟨rfl, f18⟩ := hcut
                generalize wc = w18 at *
                have CM' := CM.out.keep f18
                clear CM
                have CM := Lib.hid CM'
                clear CM' f18 SQ BO16 TW16 TN16 o0 o1 o2 o3 o4 o5 o6 o7 t1 t2 t3 t4
                go_upto_region 32 with fail
                go_loopw [23] (fun iv wr => ∃ (k : Nat) (uk : Vw) (zk : VwP) (dak : Option Addr) (dck : Nat) (um : Vw) (zm : VwP) (dam : Option Addr) (dcm : Nat), iv = .int .i64 k ∧ k ≤ sm.length ∧ CmSt w4 q gw gk dp v y vv yy (kAll v sm DK).2 wr uk zk (kAll v (sm.take k) DK).2 dak dck um zm (kAll v (sm.take k) l').2 dam dcm ∧ Like (kAll v (sm.take k) DK).1 uk ∧ Like (kAll v (sm.take k) l').1 um) (fun iv _ => sm.length - (intOf iv).toNat)
                case atStart => exact ⟨0, u, z, da9, dc9, u, z, a2, c2, rfl, Nat.zero_le _, CM.out, HL.out.1, HL.out.1⟩
                case round =>
                  clear CM
                  obtain ⟨k, uk, zk, dak, dck, um, zm, dam, dcm, rfl, hk, hst, hlk, hlm⟩ := hrel
                  have ST := Lib.hid hst
                  have e1 := hst.rk.dr.le
                  clear e1
                  have j1 := hst.rk.act.le
                  have j2 := hst.rk.act.max
                  have j3 := hst.rk.pas.le
                  have j4 := hst.rk.pas.max
                  have j5 := hst.rm.act.le
                  have j6 := hst.rm.act.max
                  have j7 := hst.rm.pas.le
                  have j8 := hst.rm.pas.max
                  by_cases hlt : k < sm.length
                  · have hsk := HSMk.out _ hst.fr
                    have hbsz : ∀ q9, a3 = some q9 → q9.block < W.heap.size := fun q9 h9 => HSB.out (fun e => by subst e; simp at hlt) q9 h9
                    obtain ⟨bs, os, rfl, hcs⟩ := hsk.int k hlt
                    have hbs : bs < W.heap.size := hbsz _ rfl
                    obtain ⟨xx, hxx⟩ : ∃ x, x = sm[k] := ⟨_, rfl⟩
                    rw [← hxx] at hcs
                    have s1 := kAll_snoc v (sm.take k) DK sm[k]
                    have s2' := kAll_snoc v (sm.take k) l' sm[k]
                    rw [← List.take_succ_eq_append_getElem hlt, ← hxx] at s1 s2'
                    have g1 := kAll_good (sm.take k) v DK HL.out.2.1
                    have g2 := kAll_good (sm.take k) v l' HL.out.2.1
                    have r1 := cm_range (sm.take k) v DK HRK.out
                    have r2 := cm_range (sm.take k) v l' HR.out
                    have K1 := like_know hlk g1 xx r1
                    have K2 := like_know hlm g2 xx r2
                    rw [← s1] at K1
                    rw [← s2'] at K2
                    have n1 := (like_len2 hlk g1).2
                    have n2 := (like_len2 hlm g2).2
                    have CRk := Lib.hid (fun w (h : RwAt w uk zk (kAll v (sm.take k) DK).2 dak dck) => refKnow_any uk zk xx (kAll v (sm.take k) DK).2 dak dck w h n1.1 n1.2 r1)
                    have CRm := Lib.hid (fun w (h : RwAt w um zm (kAll v (sm.take k) l').2 dam dcm) => refKnow_any um zm xx (kAll v (sm.take k) l').2 dam dcm w h n2.1 n2.2 r2)
                    unfold RwEnd at CRk CRm
                    have KK := Lib.hid (And.intro K1 K2)
                    clear s1 s2' g1 g2 r1 r2 K1 K2 n1 n2 hxx hsk hst hlk hlm
                    generalize (kAll v (sm.take k) DK).2 = d1 at *
                    generalize (kAll v (sm.take k) l').2 = d2 at *
                    generalize (rKnow uk xx d1).1 = uk' at *
                    generalize (rKnow uk xx d1).2 = d1' at *
                    generalize (rKnow um xx d2).1 = um' at *
                    generalize (rKnow um xx d2).2 = d2' at *
                    go_upto_region 34 with fail
                    haveI : Nonempty (WC (fun w => w.cell? ⟨bs, os + k, none⟩ = some (.int .i64 xx))) := ⟨⟨wr, hcs⟩⟩
                    have x0 : ∀ z' : WC (fun w => w.cell? ⟨bs, os + k, none⟩ = some (.int .i64 xx)), z'.val.cell? ⟨bs, os + k, none⟩ = some (.int .i64 xx) := fun z' => z'.ok
                    have ST1 := Lib.hid (ST.out.keep ((Fr.refl _ _).drew))
                    refine wp_region_lastO 6 [0, 5] [] [0, 1, 2, 3, 4, 5] (fun w' => ∃ z' : WC (fun w => w.cell? ⟨bs, os + k, none⟩ = some (.int .i64 xx)), w' = z'.val) (by kernel_rfl) (by kernel_rfl) (fun c a w d v h => by cases d <;> exact h) (fun c a w d v h => by cases d <;> exact h) ⟨⟨wr.drew, hcs⟩, rfl⟩ ?_
                    simp only [List.take]
                    refine wpT_e (by simp only [List.getElem?_toArray, List.getElem?_cons_zero] <;> rfl) (by rfl) ?_
                    refine wpList_load_mid (by rfl) 51 _ (by rfl) gk 0 (by rfl) (Array.toList (rwArr uk zk d1 dak dck)) _ (blk_range ST1.out.bk) Try.underlying51 rfl Try.infoRefView ?_
                    go_wp2_with fail
                    refine ⟨⟨⟨wr.drew, hcs⟩, rfl⟩, ?_⟩
                    try simp only [Act.put, List.setIfInBounds_toArray, List.set_cons_succ, List.set_cons_zero]
                    repeat (refine wpT_q (by simp only [List.getElem?_toArray, List.getElem?_cons_succ, List.getElem?_cons_zero] <;> rfl) (by rfl) (by rfl) ?_; go_big_quiet_step (fail); refine wpQuiet_nil ?_)
                    refine wpT_e (by simp only [List.getElem?_toArray, List.getElem?_cons_succ, List.getElem?_cons_zero] <;> rfl) (by rfl) ?_
                    go_wp2_with fail
                    refine (CRk.out _ ST1.out.rk).mono ?_
                    rintro e w21a ⟨zk', dak', dck', rfl, h3, k3, -, f3⟩
                    have ST2 := Lib.hid (ST1.out.keep f3)
                    have H3 := Lib.hid h3
                    have AU := Lib.hid (ST1.out.ak.next k3 (fun k9 hk9 => by have := ST1.out.lt; omega))
                    have G5 := Lib.hid (f3.cell (show wr.drew.cell? ⟨bs, os + k, none⟩ = some (.int .i64 xx) from hcs) (fun h => h))
                    clear h3 k3 f3 ST ST1 CRk
                    go_wp2_with fail
                    refine ⟨⟨⟨w21a, G5.out⟩, rfl⟩, ?_⟩
                    clear x0 this
                    refine wpT_nil ?_
                    simp only [lastQ, List.drop]
                    go_wp2_with (refine wpList_storeW (b := gk) (vs := rwArr uk' zk' d1' dak' dck') ST2.out.bk (by rfl) 51 _ _ (by rfl) (by rfl) (by rfl) rfl Try.infoRefView (by rw [← Array.all_toList]; rfl) ?_)
                    intro w21 f6 b6
                    have Sw21 := Lib.hid (ST2.out.storeK f6 hgq hgg HPX.out b6 H3.out AU.out)
                    have Cw21 := Lib.hid (f6.cell G5.out (fun hk => by have := hbs; simp only at hk; omega))
                    clear f6 b6 ST2 H3 AU G5
                    go_upto_region 35 with fail
                    haveI : Nonempty (WC (fun w => w.cell? ⟨bs, os + k, none⟩ = some (.int .i64 xx))) := ⟨⟨w21, Cw21.out⟩⟩
                    have x0 : ∀ z' : WC (fun w => w.cell? ⟨bs, os + k, none⟩ = some (.int .i64 xx)), z'.val.cell? ⟨bs, os + k, none⟩ = some (.int .i64 xx) := fun z' => z'.ok
                    have Sw211 := Lib.hid (Sw21.out.keep ((Fr.refl _ _).drew))
                    refine wp_region_lastO 6 [0, 5] [] [0, 1, 2, 3, 4, 5] (fun w' => ∃ z' : WC (fun w => w.cell? ⟨bs, os + k, none⟩ = some (.int .i64 xx)), w' = z'.val) (by kernel_rfl) (by kernel_rfl) (fun c a w d v h => by cases d <;> exact h) (fun c a w d v h => by cases d <;> exact h) ⟨⟨w21.drew, Cw21.out⟩, rfl⟩ ?_
                    simp only [List.take]
                    refine wpT_e (by simp only [List.getElem?_toArray, List.getElem?_cons_zero] <;> rfl) (by rfl) ?_
                    refine wpList_load_mid (by rfl) 51 _ (by rfl) (q + 1) 0 (by rfl) (Array.toList (rwArr um zm d2 dam dcm)) _ (blk_range Sw211.out.bm) Try.underlying51 rfl Try.infoRefView ?_
                    go_wp2_with fail
                    refine ⟨⟨⟨w21.drew, Cw21.out⟩, rfl⟩, ?_⟩
                    try simp only [Act.put, List.setIfInBounds_toArray, List.set_cons_succ, List.set_cons_zero]
                    repeat (refine wpT_q (by simp only [List.getElem?_toArray, List.getElem?_cons_succ, List.getElem?_cons_zero] <;> rfl) (by rfl) (by rfl) ?_; go_big_quiet_step (fail); refine wpQuiet_nil ?_)
                    refine wpT_e (by simp only [List.getElem?_toArray, List.getElem?_cons_succ, List.getElem?_cons_zero] <;> rfl) (by rfl) ?_
                    go_wp2_with fail
                    refine (CRm.out _ Sw211.out.rm).mono ?_
                    rintro e w22a ⟨zm', dam', dcm', rfl, h3, k3, -, f3⟩
                    have Sw212 := Lib.hid (Sw211.out.keep f3)
                    have H3 := Lib.hid h3
                    have AU := Lib.hid (Sw211.out.am.next k3 (fun k9 hk9 => by have := Sw211.out.lt; omega))
                    have G5 := Lib.hid (f3.cell (show w21.drew.cell? ⟨bs, os + k, none⟩ = some (.int .i64 xx) from Cw21.out) (fun h => h))
                    clear h3 k3 f3 Sw21 Sw211 CRm
                    go_wp2_with fail
                    refine ⟨⟨⟨w22a, G5.out⟩, rfl⟩, ?_⟩
                    clear x0 this
                    refine wpT_nil ?_
                    simp only [lastQ, List.drop]
                    go_wp2_with (refine wpList_storeW (b := (q + 1)) (vs := rwArr um' zm' d2' dam' dcm') Sw212.out.bm (by rfl) 51 _ _ (by rfl) (by rfl) (by rfl) rfl Try.infoRefView (by rw [← Array.all_toList]; rfl) ?_)
                    intro w22 f6 b6
                    have Sw22 := Lib.hid (Sw212.out.storeM f6 hgq hgg HPX.out b6 H3.out AU.out)
                    have Cw22 := Lib.hid (f6.cell G5.out (fun hk => by have := hbs; simp only at hk; omega))
                    clear f6 b6 Sw212 H3 AU G5
                    go_wp2_with fail
                    go_roundw
                    case rel =>
                      refine ⟨k + 1, uk', zk', dak', dck', um', zm', dam', dcm', by go_num, by omega, ?_, KK.out.1.1, KK.out.2.1⟩
                      rw [← KK.out.1.2, ← KK.out.2.2]
                      exact Sw22.out
                    case measure => simp [intOf]; omega
                  · have hkM : sm.take k = sm := List.take_of_length_le (by omega)
                    rw [hkM] at ST hlk hlm
                    clear hst
                    have HLK := Lib.hid hlk
                    have HLM := Lib.hid hlm
                    clear hlk hlm hkM hk
                    obtain ⟨v', hv'⟩ : ∃ v', v' = (kAll v sm l').1 := ⟨_, rfl⟩
                    have HV' := Lib.hid hv'
                    have CO := Lib.hid (fun w (f : Gr wr w) (d9 : Nat) (hd9 : wr.heap.size ≤ d9) (hD : DrawAt w d9 l') => onMixed_any v y ⟨8, 0, 0, false, sm⟩ a3 c3 (.pointer (some ⟨d9, 0, none⟩)) l' w (HVk.out _ (FrB.gr ST.out.fr f)) (.inr ⟨d9, rfl, hD⟩) (VwSep.new HV.out (fun k9 hk9 => by unfold pblk at hk9; cases hk9; have := ST.out.lt; omega)) (HSMk.out _ (FrB.gr ST.out.fr f)) (fun hne q9 hq9 hk9 => by have h1 := HSB.out hne q9 hq9; unfold pblk at hk9; cases hk9; have := ST.out.lt; omega))
                    unfold VEnd at CO
                    simp only at CO
                    rw [← hv'] at CO
                    clear hv'
                    go_upto_region 36 with fail
                    haveI : Nonempty (WC (Gr wr)) := ⟨⟨wr, Fr.refl _ _⟩⟩
                    have z0 : ∀ z' : WC (Gr wr), z'.val.cell? ⟨q, 0, none⟩ = some (.int .i64 v.self) := fun z' => z'.ok.cell ((Bx.of_block ST.out.bv) 0 _ rfl) (fun h => h)
                    have z1 : ∀ z' : WC (Gr wr), z'.val.cell? ⟨q, 1, none⟩ = some (.slice y.aa v.act.length y.ac) := fun z' => z'.ok.cell ((Bx.of_block ST.out.bv) 1 _ rfl) (fun h => h)
                    have z2 : ∀ z' : WC (Gr wr), z'.val.cell? ⟨q, 2, none⟩ = some (.int .i64 v.am) := fun z' => z'.ok.cell ((Bx.of_block ST.out.bv) 2 _ rfl) (fun h => h)
                    have z3 : ∀ z' : WC (Gr wr), z'.val.cell? ⟨q, 3, none⟩ = some (.slice y.pa v.pas.length y.pc) := fun z' => z'.ok.cell ((Bx.of_block ST.out.bv) 3 _ rfl) (fun h => h)
                    have z4 : ∀ z' : WC (Gr wr), z'.val.cell? ⟨q, 4, none⟩ = some (.int .i64 v.pm) := fun z' => z'.ok.cell ((Bx.of_block ST.out.bv) 4 _ rfl) (fun h => h)
                    go_cut [24] from 216 to 221 (fun rv wx => ∃ (g2 : Nat) (y' : VwP), rv = .pointer (some ⟨g2, 0, none⟩) ∧ wr.heap.size ≤ g2 ∧ wx.heap[g2]? = some (.cells (v'.arr y') 29 (0, 0)) ∧ VwAt wx v' y' ∧ Gr wr wx)
                    case first =>
                      refine wp_region_plan [4, 5, 6, 7] (Plan.seq [0, 1, 2, 3] (.fork 4 6 (.fork 5 6 (Plan.seq [6, 7] .done) (Plan.seq [5, 7] .done)) (Plan.seq [4, 5, 7] .done))) (fun w' => ∃ z' : WC (Gr wr), w' = z'.val) (by kernel_rfl) (by kernel_rfl) (fun c a w d v h => by cases d <;> exact h) (fun c a w d v h => by cases d <;> exact h) ⟨⟨wr.drew, (Fr.refl _ _).drew⟩, rfl⟩ ?_
                      simp only [Plan.seq, List.foldr]
                      refine wpV_q (by simp only [List.getElem?_toArray, List.getElem?_cons_zero] <;> rfl) (by rfl) (by rfl) ?_
                      go_big_quiet_step (fail)
                      refine wpQuiet_nil ?_
                      repeat (refine wpV_q (by simp only [List.getElem?_toArray, List.getElem?_cons_succ, List.getElem?_cons_zero] <;> rfl) (by rfl) (by rfl) ?_; go_big_quiet_step (fail); refine wpQuiet_nil ?_)
                      refine wpV_fork (by simp only [List.getElem?_toArray, List.getElem?_cons_succ, List.getElem?_cons_zero] <;> rfl) (by simp only [List.getElem?_toArray, List.getElem?_cons_succ, List.getElem?_cons_zero] <;> rfl) ?_ ?_
                      · go_wp2_with fail
                        refine (CD.out _ (FrB.gr ST.out.fr ((Fr.refl _ _).drew))).mono ?_
                        rintro e w21 ⟨d9, rfl, hd9, hdd, hbl⟩
                        have hge9 : wr.heap.size ≤ (wr.drew).heap.size := Fr.size (S := fun _ => False) ((Fr.refl _ _).drew)
                        have Fw21 : Gr wr w21 := Gr.trans ((Fr.refl _ _).drew) (Gr.of_below hbl)
                        have hdl : wr.heap.size ≤ d9 := by have h0 := hd9; have h1 := hge9; exact Nat.le_trans h1 h0
                        clear hbl hge9 hd9
                        go_wp2_with fail
                        refine ⟨⟨⟨w21, Fw21⟩, rfl⟩, ?_⟩
                        refine wpV_fork (by simp only [List.getElem?_toArray, List.getElem?_cons_succ, List.getElem?_cons_zero] <;> rfl) (by simp only [List.getElem?_toArray, List.getElem?_cons_succ, List.getElem?_cons_zero] <;> rfl) ?_ ?_
                        · go_wp2_with fail
                          refine (CO.out _ Fw21 d9 hdl hdd).mono ?_
                          rintro e w22 ⟨y', rfl, h20, -, f20, k20⟩
                          have Fw22 : Gr wr w22 := Fr.trans Fw21 f20 (fun k9 hk9 => .inr (by unfold pblk at hk9; cases hk9; exact hdl))
                          go_wp2_with fail
                          refine ⟨⟨⟨w22, Fw22⟩, rfl⟩, ?_⟩
                          refine wpV_e (by simp only [List.getElem?_toArray, List.getElem?_cons_succ, List.getElem?_cons_zero] <;> rfl) (by rfl) ?_
                          go_wp2_with fail
                          obtain ⟨w23, hw23⟩ : ∃ w9, w9 = w22.alloc (.cells viewZ 29) := ⟨_, rfl⟩
                          have f21 : Gr w22 w23 := by rw [hw23]; exact (Fr.refl _ _).alloc _
                          have bw23 : w23.heap[w22.heap.size]? = some (.cells viewZ 29 (0, 0)) := by rw [hw23]; rw [heap_alloc_if, if_pos rfl]
                          rw [← hw23]
                          have Fw23 : Gr wr w23 := Gr.trans Fw22 f21
                          clear hw23
                          refine ⟨⟨⟨w23, Fw23⟩, rfl⟩, ?_⟩
                          refine wpV_e (by simp only [List.getElem?_toArray, List.getElem?_cons_succ, List.getElem?_cons_zero] <;> rfl) (by rfl) ?_
                          have hg22 := Fw22.size
                          go_wp2_with (refine wpList_storeW (b := w22.heap.size) (vs := v'.arr y') bw23 (by rfl) 29 _ _ (by rfl) (by rfl) (by rfl) rfl Try.infoView (by rw [← Array.all_toList]; rfl) ?_)
                          intro w24 f24 b24
                          refine wpList_nil ?_
                          have F24 : Gr wr w24 := Fr.trans Fw23 f24 (fun k9 hk9 => .inr (by subst hk9; exact hg22))
                          refine ⟨⟨⟨w24, F24⟩, rfl⟩, ?_⟩
                          have H22 := Lib.hid (And.intro hg22 (And.intro b24 (And.intro ((h20.gr f21).keepA f24 (VwApart.new h20 (fun k9 h9 => by subst h9; exact Nat.le_refl _))) F24)))
                          clear Fw21 Fw22 Fw23 f21 f24 b24 bw23 h20 k20 f20 hdl hdd F24 hg22
                          clear z0 z1 z2 z3 z4 this
                          refine wpV_done ?_
                          go_wp2_with fail
                          go_meet
                          exact ⟨_, y', rfl, H22.out.1, H22.out.2.1, H22.out.2.2.1, H22.out.2.2.2⟩
                        · go_wp2_with fail
                          obtain ⟨w22, hw22⟩ : ∃ w9, w9 = w21.alloc (.cells viewZ 29) := ⟨_, rfl⟩
                          have f21 : Gr w21 w22 := by rw [hw22]; exact (Fr.refl _ _).alloc _
                          have bw22 : w22.heap[w21.heap.size]? = some (.cells viewZ 29 (0, 0)) := by rw [hw22]; rw [heap_alloc_if, if_pos rfl]
                          rw [← hw22]
                          have Fw22 : Gr wr w22 := Gr.trans Fw21 f21
                          clear hw22
                          refine ⟨⟨⟨w22, Fw22⟩, rfl⟩, ?_⟩
                          have hg22 := Fw21.size
                          have hlt9 : d9 < w21.heap.size := hdd.lt
                          have hdd := hdd.keep f21 (fun _ _ h => h)
                          have hbd : d9 ≠ w21.heap.size := Nat.ne_of_lt hlt9
                          have hlt8 : w21.heap.size < w22.heap.size := (Array.getElem?_eq_some_iff.1 bw22).1
                          clear hlt9
                          refine wpV_e (by simp only [List.getElem?_toArray, List.getElem?_cons_succ, List.getElem?_cons_zero] <;> rfl) (by rfl) ?_
                          go_wp2_with fail
                          refine (CO.out _ Fw22 d9 hdl hdd).mono ?_
                          rintro e w23 ⟨y', rfl, h20, -, f20, k20⟩
                          have Fw23 : Gr wr w23 := Fr.trans Fw22 f20 (fun k9 hk9 => .inr (by unfold pblk at hk9; cases hk9; exact hdl))
                          have bw23 := blk_keep f20 bw22 (fun hk9 => by unfold pblk at hk9; cases hk9; exact absurd rfl hbd)
                          clear bw22
                          go_wp2_with fail
                          refine ⟨⟨⟨w23, Fw23⟩, rfl⟩, ?_⟩
                          refine wpV_e (by simp only [List.getElem?_toArray, List.getElem?_cons_succ, List.getElem?_cons_zero] <;> rfl) (by rfl) ?_
                          go_wp2_with (refine wpList_storeW (b := w21.heap.size) (vs := v'.arr y') bw23 (by rfl) 29 _ _ (by rfl) (by rfl) (by rfl) rfl Try.infoView (by rw [← Array.all_toList]; rfl) ?_)
                          intro w24 f24 b24
                          refine wpList_nil ?_
                          have F24 : Gr wr w24 := Fr.trans Fw23 f24 (fun k9 hk9 => .inr (by subst hk9; exact hg22))
                          refine ⟨⟨⟨w24, F24⟩, rfl⟩, ?_⟩
                          have H22 := Lib.hid (And.intro hg22 (And.intro b24 (And.intro (h20.keepA f24 ((VwApart.new (HVk.out _ ST.out.fr) (fun k9 h9 => by subst h9; exact hg22)).next k20 (fun k9 h9 => by subst h9; exact hlt8))) F24)))
                          clear Fw21 Fw22 Fw23 f21 f24 b24 bw23 h20 k20 f20 hdl hdd F24 hg22
                          clear z0 z1 z2 z3 z4 this
                          refine wpV_done ?_
                          go_wp2_with fail
                          go_meet
                          exact ⟨_, y', rfl, H22.out.1, H22.out.2.1, H22.out.2.2.1, H22.out.2.2.2⟩
                      · go_wp2_with fail
                        obtain ⟨w21, hw21⟩ : ∃ w9, w9 = (wr.alloc (.cells viewZ 29)).drew := ⟨_, rfl⟩
                        have f21 : Gr wr w21 := by rw [hw21]; exact ((Fr.refl _ _).alloc _).drew
                        have bw21 : w21.heap[wr.heap.size]? = some (.cells viewZ 29 (0, 0)) := by rw [hw21]; show (wr.alloc (.cells viewZ 29)).heap[wr.heap.size]? = _; rw [heap_alloc_if, if_pos rfl]
                        rw [← hw21]
                        have Fw21 : Gr wr w21 := Gr.trans (Fr.refl _ _) f21
                        clear hw21
                        refine ⟨⟨⟨w21, Fw21⟩, rfl⟩, ?_⟩
                        have hg22 := Nat.le_refl wr.heap.size
                        refine wpV_e (by simp only [List.getElem?_toArray, List.getElem?_cons_succ, List.getElem?_cons_zero] <;> rfl) (by rfl) ?_
                        go_wp2_with fail
                        refine (CD.out _ (FrB.gr ST.out.fr Fw21)).mono ?_
                        rintro e w22 ⟨d9, rfl, hd9, hdd, hbl⟩
                        have hge9 : wr.heap.size ≤ (w21).heap.size := Fr.size (S := fun _ => False) Fw21
                        have Fw22 : Gr wr w22 := Gr.trans Fw21 (Gr.of_below hbl)
                        have hbd : d9 ≠ wr.heap.size := by have h1 := (Array.getElem?_eq_some_iff.1 bw21).1; omega
                        have bw22 := blk_keep (Gr.of_below hbl) bw21 (fun h => h)
                        have hlt8 : wr.heap.size < w22.heap.size := (Array.getElem?_eq_some_iff.1 bw22).1
                        clear bw21
                        have hdl : wr.heap.size ≤ d9 := by have h0 := hd9; have h1 := hge9; exact Nat.le_trans h1 h0
                        clear hbl hge9 hd9
                        go_wp2_with fail
                        refine ⟨⟨⟨w22, Fw22⟩, rfl⟩, ?_⟩
                        refine wpV_e (by simp only [List.getElem?_toArray, List.getElem?_cons_succ, List.getElem?_cons_zero] <;> rfl) (by rfl) ?_
                        go_wp2_with fail
                        refine (CO.out _ Fw22 d9 hdl hdd).mono ?_
                        rintro e w23 ⟨y', rfl, h20, -, f20, k20⟩
                        have Fw23 : Gr wr w23 := Fr.trans Fw22 f20 (fun k9 hk9 => .inr (by unfold pblk at hk9; cases hk9; exact hdl))
                        have bw23 := blk_keep f20 bw22 (fun hk9 => by unfold pblk at hk9; cases hk9; exact absurd rfl hbd)
                        clear bw22
                        go_wp2_with fail
                        refine ⟨⟨⟨w23, Fw23⟩, rfl⟩, ?_⟩
                        refine wpV_e (by simp only [List.getElem?_toArray, List.getElem?_cons_succ, List.getElem?_cons_zero] <;> rfl) (by rfl) ?_
                        go_wp2_with (refine wpList_storeW (b := wr.heap.size) (vs := v'.arr y') bw23 (by rfl) 29 _ _ (by rfl) (by rfl) (by rfl) rfl Try.infoView (by rw [← Array.all_toList]; rfl) ?_)
                        intro w24 f24 b24
                        refine wpList_nil ?_
                        have F24 : Gr wr w24 := Fr.trans Fw23 f24 (fun k9 hk9 => .inr (by subst hk9; exact hg22))
                        refine ⟨⟨⟨w24, F24⟩, rfl⟩, ?_⟩
                        have H22 := Lib.hid (And.intro hg22 (And.intro b24 (And.intro (h20.keepA f24 ((VwApart.new (HVk.out _ ST.out.fr) (fun k9 h9 => by subst h9; exact Nat.le_refl _)).next k20 (fun k9 h9 => by subst h9; exact hlt8))) F24)))
                        clear Fw21 Fw22 Fw23 f21 f24 b24 bw23 h20 k20 f20 hdl hdd F24 hg22
                        clear z0 z1 z2 z3 z4 this
                        refine wpV_done ?_
                        go_wp2_with fail
                        go_meet
                        exact ⟨_, y', rfl, H22.out.1, H22.out.2.1, H22.out.2.2.1, H22.out.2.2.2⟩
                    case rest =>
                      obtain ⟨g2, y', rfl, hg2, bg2, hv2, f25⟩ := hcut
                      generalize wc = w25 at *
                      have ST2 := Lib.hid (ST.out.keep f25)
                      have BG := Lib.hid bg2
                      have HV2 := Lib.hid hv2
                      have gK := kAll_good sm v DK HL.out.2.1
                      have sK := kAll_sane sm v DK HL.out.2.1 HL.out.2.2.1
                      have gM := kAll_good sm v l' HL.out.2.1
                      have sM := kAll_sane sm v l' HL.out.2.1 HL.out.2.2.1
                      have nK := (like_len2 HLK.out gK).2.1
                      have nM := (like_len2 HLM.out gM).2.1
                      rw [← HVV.out] at gK sK
                      have HLK2 := HLK.out
                      rw [← HVV.out] at HLK2
                      have HLM2 := HLM.out
                      rw [← HV'.out] at gM sM HLM2
                      have CA1 := Lib.hid (fun w (f : Gr w25 w) => setAll_any yy.pa yy.pc vv.pas vv.pm w (ST2.out.va.gr f).pas gK.pas)
                      have CA2 := Lib.hid (fun w (f : Gr w25 w) => setAll_any y'.pa y'.pc v'.pas v'.pm w (HV2.out.gr f).pas gM.pas)
                      have CS1 := Lib.hid (fun w (f : Gr w25 w) => refSorted_sl zk.pa zk.pc uk.pas vv.pas w (ST2.out.rk.gr f).pas HLK2.pas gK.pas.le nK)
                      have CS2 := Lib.hid (fun w (f : Gr w25 w) => refSorted_sl zm.pa zm.pc um.pas v'.pas w (ST2.out.rm.gr f).pas HLM2.pas gM.pas.le nM)
                      have CN1 := Lib.hid (fun w (f : Gr w25 w) => viewSane_any vv yy w (ST2.out.va.gr f))
                      have CN2 := Lib.hid (fun w (f : Gr w25 w) => viewSane_any v' y' w (HV2.out.gr f))
                      rw [(vSane_iff vv).2 sK] at CN1
                      rw [(vSane_iff v').2 sM] at CN2
                      unfold RowOut at CS1 CS2
                      obtain ⟨DL, hDL⟩ : ∃ D, D = (kAll v sm DK).2 := ⟨_, rfl⟩
                      rw [← hDL] at ST2
                      have LE := Lib.hid (fun w (f : Gr w25 w) => leftV_any dp DL w (ST2.out.dr.keep f) HDD.out)
                      have hbb : ((DL.length : Int) == (DL.length : Int)) = true := by simp
                      have jk3 := ST2.out.rk.dr.le
                      have jk4 := ST2.out.rk.dr.max
                      clear z0 z1 z2 z3 z4 this bg2 hv2 f25 ST CO gK sK gM sM nK nM HLK HLM HLK2 HLM2 hDL
                      go_upto_region 37 with fail
                      haveI : Nonempty (WC (Gr w25)) := ⟨⟨w25, Fr.refl _ _⟩⟩
                      have z0 : ∀ z' : WC (Gr w25), z'.val.cell? ⟨gw, 0, none⟩ = some (.int .i64 vv.self) := fun z' => z'.ok.cell ((Bx.of_block ST2.out.bz) 0 _ rfl) (fun h => h)
                      have z1 : ∀ z' : WC (Gr w25), z'.val.cell? ⟨gw, 1, none⟩ = some (.slice yy.aa vv.act.length yy.ac) := fun z' => z'.ok.cell ((Bx.of_block ST2.out.bz) 1 _ rfl) (fun h => h)
                      have z2 : ∀ z' : WC (Gr w25), z'.val.cell? ⟨gw, 2, none⟩ = some (.int .i64 vv.am) := fun z' => z'.ok.cell ((Bx.of_block ST2.out.bz) 2 _ rfl) (fun h => h)
                      have z3 : ∀ z' : WC (Gr w25), z'.val.cell? ⟨gw, 3, none⟩ = some (.slice yy.pa vv.pas.length yy.pc) := fun z' => z'.ok.cell ((Bx.of_block ST2.out.bz) 3 _ rfl) (fun h => h)
                      have z4 : ∀ z' : WC (Gr w25), z'.val.cell? ⟨gw, 4, none⟩ = some (.int .i64 vv.pm) := fun z' => z'.ok.cell ((Bx.of_block ST2.out.bz) 4 _ rfl) (fun h => h)
                      have y0 : ∀ z' : WC (Gr w25), z'.val.cell? ⟨g2, 0, none⟩ = some (.int .i64 v'.self) := fun z' => z'.ok.cell ((Bx.of_block BG.out) 0 _ rfl) (fun h => h)
                      have y1 : ∀ z' : WC (Gr w25), z'.val.cell? ⟨g2, 1, none⟩ = some (.slice y'.aa v'.act.length y'.ac) := fun z' => z'.ok.cell ((Bx.of_block BG.out) 1 _ rfl) (fun h => h)
                      have y2 : ∀ z' : WC (Gr w25), z'.val.cell? ⟨g2, 2, none⟩ = some (.int .i64 v'.am) := fun z' => z'.ok.cell ((Bx.of_block BG.out) 2 _ rfl) (fun h => h)
                      have y3 : ∀ z' : WC (Gr w25), z'.val.cell? ⟨g2, 3, none⟩ = some (.slice y'.pa v'.pas.length y'.pc) := fun z' => z'.ok.cell ((Bx.of_block BG.out) 3 _ rfl) (fun h => h)
                      have y4 : ∀ z' : WC (Gr w25), z'.val.cell? ⟨g2, 4, none⟩ = some (.int .i64 v'.pm) := fun z' => z'.ok.cell ((Bx.of_block BG.out) 4 _ rfl) (fun h => h)
                      have k2 : ∀ z' : WC (Gr w25), z'.val.cell? ⟨gk, 2, none⟩ = some (.slice zk.pa uk.pas.length zk.pc) := fun z' => z'.ok.cell ((Bx.of_block ST2.out.bk) 2 _ rfl) (fun h => h)
                      have k5 : ∀ z' : WC (Gr w25), z'.val.cell? ⟨gk, 5, none⟩ = some (.slice dak DL.length dck) := fun z' => z'.ok.cell ((Bx.of_block ST2.out.bk) 5 _ rfl) (fun h => h)
                      have m2 : ∀ z' : WC (Gr w25), z'.val.cell? ⟨(q + 1), 2, none⟩ = some (.slice zm.pa um.pas.length zm.pc) := fun z' => z'.ok.cell ((Bx.of_block ST2.out.bm) 2 _ rfl) (fun h => h)
                      refine wp_region_plan [2, 5, 6, 9, 18, 21, 22, 26, 30] (Plan.seq [0, 1, 2, 3, 4, 5, 6, 7, 8, 9, 10, 11, 12, 13, 14, 15, 16, 17, 18, 19, 20, 21, 22, 23, 24, 25, 26, 27, 28, 29, 30, 31, 32] .done) (fun w' => ∃ z' : WC (Gr w25), w' = z'.val) (by kernel_rfl) (by kernel_rfl) (fun c a w d v h => by cases d <;> exact h) (fun c a w d v h => by cases d <;> exact h) ⟨⟨w25.drew, (Fr.refl _ _).drew⟩, rfl⟩ ?_
                      simp only [Plan.seq, List.foldr]
                      refine wpV_q (by simp only [List.getElem?_toArray, List.getElem?_cons_zero] <;> rfl) (by rfl) (by rfl) ?_
                      go_big_quiet_step (fail)
                      refine wpQuiet_nil ?_
                      repeat (refine wpV_q (by simp only [List.getElem?_toArray, List.getElem?_cons_succ, List.getElem?_cons_zero] <;> rfl) (by rfl) (by rfl) ?_; go_big_quiet_step (fail); refine wpQuiet_nil ?_)
                      refine wpV_e (by simp only [List.getElem?_toArray, List.getElem?_cons_succ, List.getElem?_cons_zero] <;> rfl) (by rfl) ?_
                      go_wp2_with fail
                      refine (CA1.out _ ((Fr.refl _ _).drew)).mono ?_
                      rintro e w30 ⟨vA, rfl, ho, hb9⟩
                      obtain ⟨aA, cA, rfl, h4, -⟩ := SlA.of_own ho
                      have g9 := Gr.of_below hb9
                      have Fw30 := Gr.trans ((Fr.refl _ _).drew) g9
                      have HaA := Lib.hid h4
                      clear ho hb9 h4 g9
                      go_wp2_with fail
                      refine ⟨⟨⟨w30, Fw30⟩, rfl⟩, ?_⟩
                      repeat (refine wpV_q (by simp only [List.getElem?_toArray, List.getElem?_cons_succ, List.getElem?_cons_zero] <;> rfl) (by rfl) (by rfl) ?_; go_big_quiet_step (fail); refine wpQuiet_nil ?_)
                      refine wpV_e (by simp only [List.getElem?_toArray, List.getElem?_cons_succ, List.getElem?_cons_zero] <;> rfl) (by rfl) ?_
                      go_wp2_with fail
                      refine (CS1.out _ Fw30).mono ?_
                      rintro e w31 ⟨aB, cB, rfl, h5, g9⟩
                      have Fw31 := Gr.trans Fw30 g9
                      have SMw31 := Lib.hid (refSame_any aA cA vv.pas aB cB vv.pas _ (HaA.out.keep g9 (fun _ _ h => h)) h5)
                      rw [(same_iff vv.pas vv.pas).2 rfl] at SMw31
                      clear h5 g9 HaA
                      go_wp2_with fail
                      refine ⟨⟨⟨w31, Fw31⟩, rfl⟩, ?_⟩
                      repeat (refine wpV_q (by simp only [List.getElem?_toArray, List.getElem?_cons_succ, List.getElem?_cons_zero] <;> rfl) (by rfl) (by rfl) ?_; go_big_quiet_step (fail); refine wpQuiet_nil ?_)
                      refine wpV_e (by simp only [List.getElem?_toArray, List.getElem?_cons_succ, List.getElem?_cons_zero] <;> rfl) (by rfl) ?_
                      go_wp2_with fail
                      refine SMw31.out.mono ?_
                      rintro e w31b ⟨rfl, q9, hq9⟩
                      have Fw31b : Gr w25 w31b := by rw [hq9]; exact Fw31.drewN q9
                      clear hq9 SMw31
                      go_wp2_with fail
                      refine ⟨⟨⟨w31b, Fw31b⟩, rfl⟩, ?_⟩
                      repeat (refine wpV_q (by simp only [List.getElem?_toArray, List.getElem?_cons_succ, List.getElem?_cons_zero] <;> rfl) (by rfl) (by rfl) ?_; go_big_quiet_step (fail); refine wpQuiet_nil ?_)
                      refine wpV_e (by simp only [List.getElem?_toArray, List.getElem?_cons_succ, List.getElem?_cons_zero] <;> rfl) (by rfl) ?_
                      go_wp2_with fail
                      refine (LE.out _ Fw31b).mono ?_
                      rintro e w32 ⟨rfl, hw32⟩
                      have Fw32 : Gr w25 w32 := hw32 ▸ Fw31b
                      clear hw32
                      go_wp2_with fail
                      refine ⟨⟨⟨w32, Fw32⟩, rfl⟩, ?_⟩
                      repeat (refine wpV_q (by simp only [List.getElem?_toArray, List.getElem?_cons_succ, List.getElem?_cons_zero] <;> rfl) (by rfl) (by rfl) ?_; go_big_quiet_step (fail); refine wpQuiet_nil ?_)
                      refine wpV_e (by simp only [List.getElem?_toArray, List.getElem?_cons_succ, List.getElem?_cons_zero] <;> rfl) (by rfl) ?_
                      go_wp2_with fail
                      refine (CA2.out _ Fw32).mono ?_
                      rintro e w33 ⟨vA, rfl, ho, hb9⟩
                      obtain ⟨aC, cC, rfl, h4, -⟩ := SlA.of_own ho
                      have g9 := Gr.of_below hb9
                      have Fw33 := Gr.trans Fw32 g9
                      have HaC := Lib.hid h4
                      clear ho hb9 h4 g9
                      go_wp2_with fail
                      refine ⟨⟨⟨w33, Fw33⟩, rfl⟩, ?_⟩
                      repeat (refine wpV_q (by simp only [List.getElem?_toArray, List.getElem?_cons_succ, List.getElem?_cons_zero] <;> rfl) (by rfl) (by rfl) ?_; go_big_quiet_step (fail); refine wpQuiet_nil ?_)
                      refine wpV_e (by simp only [List.getElem?_toArray, List.getElem?_cons_succ, List.getElem?_cons_zero] <;> rfl) (by rfl) ?_
                      go_wp2_with fail
                      refine (CS2.out _ Fw33).mono ?_
                      rintro e w34 ⟨aD, cD, rfl, h5, g9⟩
                      have Fw34 := Gr.trans Fw33 g9
                      have SMw34 := Lib.hid (refSame_any aC cC v'.pas aD cD v'.pas _ (HaC.out.keep g9 (fun _ _ h => h)) h5)
                      rw [(same_iff v'.pas v'.pas).2 rfl] at SMw34
                      clear h5 g9 HaC
                      go_wp2_with fail
                      refine ⟨⟨⟨w34, Fw34⟩, rfl⟩, ?_⟩
                      repeat (refine wpV_q (by simp only [List.getElem?_toArray, List.getElem?_cons_succ, List.getElem?_cons_zero] <;> rfl) (by rfl) (by rfl) ?_; go_big_quiet_step (fail); refine wpQuiet_nil ?_)
                      refine wpV_e (by simp only [List.getElem?_toArray, List.getElem?_cons_succ, List.getElem?_cons_zero] <;> rfl) (by rfl) ?_
                      go_wp2_with fail
                      refine SMw34.out.mono ?_
                      rintro e w34b ⟨rfl, q9, hq9⟩
                      have Fw34b : Gr w25 w34b := by rw [hq9]; exact Fw34.drewN q9
                      clear hq9 SMw34
                      go_wp2_with fail
                      refine ⟨⟨⟨w34b, Fw34b⟩, rfl⟩, ?_⟩
                      repeat (refine wpV_q (by simp only [List.getElem?_toArray, List.getElem?_cons_succ, List.getElem?_cons_zero] <;> rfl) (by rfl) (by rfl) ?_; go_big_quiet_step (fail); refine wpQuiet_nil ?_)
                      refine wpV_e (by simp only [List.getElem?_toArray, List.getElem?_cons_succ, List.getElem?_cons_zero] <;> rfl) (by rfl) ?_
                      go_wp2_with fail
                      refine (CN1.out _ Fw34b).mono ?_
                      rintro e w35 ⟨rfl, g9⟩
                      have Fw35 : Gr w25 w35 := Gr.trans Fw34b g9
                      clear g9
                      go_wp2_with fail
                      refine ⟨⟨⟨w35, Fw35⟩, rfl⟩, ?_⟩
                      repeat (refine wpV_q (by simp only [List.getElem?_toArray, List.getElem?_cons_succ, List.getElem?_cons_zero] <;> rfl) (by rfl) (by rfl) ?_; go_big_quiet_step (fail); refine wpQuiet_nil ?_)
                      refine wpV_e (by simp only [List.getElem?_toArray, List.getElem?_cons_succ, List.getElem?_cons_zero] <;> rfl) (by rfl) ?_
                      go_wp2_with fail
                      refine (CN2.out _ Fw35).mono ?_
                      rintro e w36 ⟨rfl, g9⟩
                      have Fw36 : Gr w25 w36 := Gr.trans Fw35 g9
                      clear g9
                      go_wp2_with fail
                      refine ⟨⟨⟨w36, Fw36⟩, rfl⟩, ?_⟩
                      repeat (refine wpV_q (by simp only [List.getElem?_toArray, List.getElem?_cons_succ, List.getElem?_cons_zero] <;> rfl) (by rfl) (by rfl) ?_; go_big_quiet_step (fail); refine wpQuiet_nil ?_)
                      refine wpV_done ?_
                      have F37 := Lib.hid Fw36
                      clear z0 z1 z2 z3 z4 y0 y1 y2 y3 y4 k2 k5 m2 this
                      go_wp2_with fail
                      go_ret
                      exact ⟨rfl, FW.out _ (FrB.gr ST2.out.fr F37.out)⟩
end Go.Proofs.Ytdpnkikaciigoaa
