/-
  The walk of WalkSteps (printed by gen_wsteps.py).
-/
import Derived.Test.YtdpnkikaciigoaaWalkLaw
import Derived.Test.YtdpnkikaciigoaaWSTail
import Derived.Test.YtdpnkikaciigoaaViewSane
namespace Go.Proofs.Ytdpnkikaciigoaa
open Go.RowKit Go.Proofs

set_option maxHeartbeats 4000000 in
set_option maxRecDepth 100000 in
theorem speaks10_any (W : World) : Calls Try.prog 15 #[] W fun e w' => e = .returned (.bool true) ∧ Gr W w' := by
  obtain ⟨iz, hz1, hz2, hzs⟩ := info_pair Try.zeroView
  obtain ⟨ip, hp1, hp2, hps⟩ := info_pair Try.zeroStep
  obtain ⟨va, hva⟩ : ∃ v : Vw, v = vwNew 1 4 4 := ⟨_, rfl⟩
  obtain ⟨vb, hvb⟩ : ∃ v : Vw, v = ⟨1, [4], 4, [], 4⟩ := ⟨_, rfl⟩
  obtain ⟨vc, hvc⟩ : ∃ v : Vw, v = ⟨1, [4, 5], 4, [], 4⟩ := ⟨_, rfl⟩
  have A1 : wJoin va 2 3 5 5 [] = (true, 0, false, []) := by rw [hva]; rfl
  have J1 : vJoin va 4 = vb := by rw [hva, hvb]; rfl
  have J2 : vJoin vb 5 = vc := by rw [hvb, hvc]; rfl
  have A2 : wJoin vc 4 3 5 5 [] = (false, 5, true, []) := by rw [hvc]; rfl
  have CN := Lib.hid (viewNew_any 1 4 4 W)
  rw [← hva] at CN
  have hat := Lib.hid (fun w => hva ▸ vwNone_at w 1 4 4 : ∀ w, VwAt w va vwNone)
  have CA1 := Lib.hid (fun y w (h : VwAt w va y) => walkJoin_any va y 2 3 5 5 (.pointer none) [] w h (DrawV.nil w))
  unfold SEnd at CA1
  rw [A1] at CA1
  have CJ1 := Lib.hid (fun y w (h : VwAt w va y) => viewJoin_any va y 4 w h)
  unfold VEnd0 at CJ1
  rw [J1] at CJ1
  have CJ2 := Lib.hid (fun y w (h : VwAt w vb y) => viewJoin_any vb y 5 w h)
  unfold VEnd0 at CJ2
  rw [J2] at CJ2
  have CA2 := Lib.hid (fun y w (h : VwAt w vc y) => walkJoin_any vc y 4 3 5 5 (.pointer none) [] w h (DrawV.nil w))
  unfold SEnd at CA2
  rw [A2] at CA2
  simp only at CA1 CA2
  generalize vJoinOk va 4 = k1 at *
  generalize vJoinOk vb 5 = k2 at *
  clear A1 J1 J2 A2 hva hvb hvc
  go_enter Try.func15, Try.ntmps15
  go_wp2_with fail
  refine CN.out.mono ?_
  rintro e w1 ⟨rfl, f1⟩
  have F1 := Lib.hid f1
  clear f1 CN
  go_wp2_with (refine wpList_fresh (vs := va.arr vwNone) hz1 hz2 Try.infoView (by rfl) (by rw [← Array.all_toList]; rfl) (by rfl) (by rfl) ?_)
  intro w2 f2 b2 l2
  obtain ⟨q, hq⟩ : ∃ q, q = w1.heap.size := ⟨_, rfl⟩
  rw [← hq] at b2 l2 ⊢
  have hWq : W.heap.size ≤ q := by rw [hq]; exact F1.out.size
  have V2 : Hid (VarV W q w2 va vwNone) := Lib.hid ⟨b2, hat.out w2, VwApart.none _ _, Gr.trans F1.out f2⟩
  clear f2 b2 l2 hq F1 hat
  go_upto_region 2 with fail
  refine wp_region_lit ?_
  refine wpList_load_mid (by rfl) 29 _ (by rfl) q 0 (by rfl) (Array.toList (va.arr vwNone)) _ (blk_range V2.out.blk) Try.underlying29 rfl Try.infoView ?_
  go_wp2_with fail
  refine (CA1.out vwNone w2 V2.out.at_).mono ?_
  rintro e w3 ⟨rfl, -, f3⟩
  have V3 := Lib.hid (V2.out.keep (gr_of_pnone f3))
  clear f3 V2 CA1
  go_wp2_with (refine wpList_fresh (vs := #[.bool true, .int .i64 0, .bool false]) hp1 hp2 Try.infoStep (by rfl) (by rw [← Array.all_toList]; rfl) (by rfl) (by rfl) ?_)
  intro w4 f4 b4 l4
  have V4 := Lib.hid (V3.out.keep f4)
  obtain ⟨g1, hg1⟩ : ∃ g, g = w3.heap.size := ⟨_, rfl⟩
  have hqg : q < g1 := by rw [hg1]; exact V3.out.lt
  rw [← hg1] at b4 l4 ⊢
  have B4 := Lib.hid b4
  clear f4 b4 l4 hg1 V3
  go_upto_region 3 with fail
  refine wp_region_lit ?_
  refine wpList_load_mid (by rfl) 29 _ (by rfl) q 0 (by rfl) (Array.toList (va.arr vwNone)) _ (blk_range V4.out.blk) Try.underlying29 rfl Try.infoView ?_
  go_wp2_with fail
  refine (CJ1.out vwNone w4 V4.out.at_).mono ?_
  rintro e w5 ⟨y, rfl, h5, f5, k5⟩
  have V5 := Lib.hid (V4.out.keep f5)
  have B5 := Lib.hid (blk_keep f5 B4.out (fun h => h))
  have H5 := Lib.hid h5
  have AP5 := Lib.hid (V4.out.apart.next k5 (fun k h => by have := V4.out.lt; omega))
  clear f5 h5 k5 V4 B4 CJ1
  go_wp2_with (refine wpList_storeW (vs := vb.arr y) V5.out.blk (by rfl) 29 _ _ (by rfl) (by rfl) (by rfl) rfl Try.infoView (by rw [← Array.all_toList]; rfl) ?_)
  intro w6 f6 b6
  have V6 : Hid (VarV W q w6 vb y) := Lib.hid ⟨b6, H5.out.keepA f6 AP5.out, AP5.out, fr_new V5.out.gr f6 hWq⟩
  have B6 := Lib.hid (blk_keep f6 B5.out (by omega))
  clear f6 b6 V5 B5 H5 AP5
  go_upto_region 4 with fail
  refine wp_region_lit ?_
  refine wpList_load_mid (by rfl) 29 _ (by rfl) q 0 (by rfl) (Array.toList (vb.arr y)) _ (blk_range V6.out.blk) Try.underlying29 rfl Try.infoView ?_
  go_wp2_with fail
  refine (CJ2.out y w6 V6.out.at_).mono ?_
  rintro e w7 ⟨z, rfl, h7, f7, k7⟩
  have V7 := Lib.hid (V6.out.keep f7)
  have B7 := Lib.hid (blk_keep f7 B6.out (fun h => h))
  have H7 := Lib.hid h7
  have AP7 := Lib.hid (V6.out.apart.next k7 (fun k h => by have := V6.out.lt; omega))
  clear f7 h7 k7 V6 B6 CJ2
  go_wp2_with (refine wpList_storeW (vs := vc.arr z) V7.out.blk (by rfl) 29 _ _ (by rfl) (by rfl) (by rfl) rfl Try.infoView (by rw [← Array.all_toList]; rfl) ?_)
  intro w8 f8 b8
  have V8 : Hid (VarV W q w8 vc z) := Lib.hid ⟨b8, H7.out.keepA f8 AP7.out, AP7.out, fr_new V7.out.gr f8 hWq⟩
  have B8 := Lib.hid (blk_keep f8 B7.out (by omega))
  clear f8 b8 V7 B7 H7 AP7
  go_upto_region 5 with fail
  refine wp_region_lit ?_
  refine wpList_load_mid (by rfl) 29 _ (by rfl) q 0 (by rfl) (Array.toList (vc.arr z)) _ (blk_range V8.out.blk) Try.underlying29 rfl Try.infoView ?_
  go_wp2_with fail
  refine (CA2.out z w8 V8.out.at_).mono ?_
  rintro e w9 ⟨rfl, -, f9⟩
  replace f9 := gr_of_pnone f9
  have F9 := Lib.hid (Gr.trans V8.out.gr f9)
  have B9 := Lib.hid (blk_keep f9 B8.out (fun h => h))
  clear f9 V8 B8 CA2
  go_wp2_with (refine wpList_fresh (vs := #[.bool false, .int .i64 5, .bool true]) hp1 hp2 Try.infoStep (by rfl) (by rw [← Array.all_toList]; rfl) (by rfl) (by rfl) ?_)
  intro w10 f10 b10 l10
  have FX := Lib.hid (Gr.trans F9.out f10)
  have x0 := (Bx.of_block (blk_keep f10 B9.out (fun h => h))) 0 _ rfl
  have y0 := (Bx.of_block b10) 0 _ rfl
  have y1 := (Bx.of_block b10) 1 _ rfl
  have y2 := (Bx.of_block b10) 2 _ rfl
  clear f10 b10 l10 B9 F9
  go_wp2_with fail
  go_ret
  exact ⟨rfl, FX.out⟩

set_option maxHeartbeats 16000000 in
set_option maxRecDepth 100000 in
theorem walkSteps_walk (a1 : Option Addr) (c1 : Nat) (la : List Int) (n0 n1 n2 n3 num : Int) (W : World) (h1 : SlA W a1 la.length c1 (ints la)) (hnum : 0 ≤ num ∧ num < 4294967296) :
    Calls Try.prog 3 #[.slice a1 la.length c1, .agg #[.int .i64 n0, .int .i64 n1, .int .i64 n2, .int .i64 n3], .int .u32 num] W fun e w' => e = .returned (.bool true) ∧ Gr W w' := by
  obtain ⟨iz, hz1, hz2, hzs⟩ := info_pair Try.zeroView
  obtain ⟨ip, hp1, hp2, hps⟩ := info_pair Try.zeroStep
  obtain ⟨w0, hw0⟩ : ∃ w0, w0 = W.alloc (.cells #[.int .i64 n0, .int .i64 n1, .int .i64 n2, .int .i64 n3] 23) := ⟨_, rfl⟩
  have f0 : Gr W w0 := by rw [hw0]; exact (Fr.refl _ _).alloc _
  have X0 := Lib.hid (show w0.heap[W.heap.size]? = some (.cells #[.int .i64 n0, .int .i64 n1, .int .i64 n2, .int .i64 n3] 23 (0, 0)) by rw [hw0, heap_alloc_if, if_pos rfl])
  have F0 := Lib.hid f0
  have HW0 := Lib.hid hw0
  have S0 := Lib.hid (speaks10_any w0)
  have HA := Lib.hid (h1.keep f0 (fun _ _ h => h))
  have HA0 := Lib.hid h1
  have hWw : W.heap.size < w0.heap.size := by rw [hw0]; simp
  have e1 := h1.le
  have e2 := h1.max
  obtain ⟨m1, hm1⟩ : ∃ n, n = min la.length 8 := ⟨_, rfl⟩
  have HN1 := Lib.hid hm1
  clear hw0 f0 h1 hm1
  go_enter Try.func3, Try.ntmps3
  go_upto_region 1 with fail
  rw [← HW0.out]
  clear HW0
  go_wp2_with fail
  refine S0.out.mono ?_
  rintro e w1 ⟨rfl, f1⟩
  have F1 := Lib.hid f1
  have CN := Lib.hid (viewNew_any 9 8 8 w1)
  clear f1 S0
  go_wp2_with fail
  refine CN.out.mono ?_
  rintro e w2 ⟨rfl, f2⟩
  have F2 := Lib.hid (Gr.trans F1.out f2)
  clear f2 F1 CN
  go_wp2_with (refine wpList_fresh (vs := (vwNew 9 8 8).arr vwNone) hz1 hz2 Try.infoView (by rfl) (by rw [← Array.all_toList]; rfl) (by rfl) (by rfl) ?_)
  intro w3 f3 b3 l3
  obtain ⟨q, hq⟩ : ∃ q, q = w2.heap.size := ⟨_, rfl⟩
  rw [← hq] at b3 l3 ⊢
  have hWq : w0.heap.size ≤ q := by rw [hq]; exact F2.out.size
  obtain ⟨va, hva⟩ : ∃ va, va = vwNew 9 8 8 := ⟨_, rfl⟩
  have V3 : Hid (VarV w0 q w3 va vwNone) := Lib.hid ⟨by rw [hva]; exact b3, by rw [hva]; exact vwNone_at w3 9 8 8, VwApart.none _ _, Gr.trans F2.out f3⟩
  clear f3 b3 l3 hq F2 hva
  go_upto_region 4 with fail
  go_wp2_with fail
  go_loopw [8] (fun iv wr => ∃ (k : Nat) (v : Vw) (y : VwP), iv = .int .i64 k ∧ k ≤ m1 ∧ VarV w0 q wr v y) (fun iv _ => m1 - (intOf iv).toNat)
  case atStart => exact ⟨0, va, vwNone, rfl, Nat.zero_le _, V3.out⟩
  case round =>
    clear V3
    obtain ⟨k, v, y, rfl, hk, hv⟩ := hrel
    have VK := Lib.hid hv
    have hqw := hv.lt
    have l1 := hv.at_.act.le
    have l2 := hv.at_.act.max
    have l3 := hv.at_.pas.le
    have l4 := hv.at_.pas.max
    clear hv
    go_upto_region 5 with fail
    go_cut [28] from 21 to 28 (fun c wx => c = .bool (decide (k < m1)) ∧ wr = wx)
    case first =>
      by_cases h1 : (k : Int) < (la.length : Int)
      · by_cases h2 : (k : Int) < 8
        · have hd := Lib.hid (show decide (k < m1) = true by have := HN1.out; simp; omega)
          go_wp2_with fail
          go_meet
          exact ⟨by rw [hd.out], rfl⟩
        · have hd := Lib.hid (show decide (k < m1) = false by have := HN1.out; simp; omega)
          go_wp2_with fail
          go_meet
          exact ⟨by rw [hd.out], rfl⟩
      · have hd := Lib.hid (show decide (k < m1) = false by have := HN1.out; simp; omega)
        go_wp2_with fail
        go_meet
        exact ⟨by rw [hd.out], rfl⟩
    case rest =>
      obtain ⟨rfl, rfl⟩ := hcut
      by_cases hlt : k < m1
      · rw [decide_eq_true hlt]
        have hkl : k < la.length := by have := HN1.out; omega
        obtain ⟨b, o, rfl, hc⟩ := (HA.out.keep VK.out.gr (fun _ _ h => h)).int k hkl
        have hbq : b ≠ q := by
          obtain ⟨b', o', e', hc'⟩ := HA0.out.int k hkl
          cases e'
          have := lt_of_cell hc'
          simp only at this
          omega
        obtain ⟨xv, hxv⟩ : ∃ x, x = la[k] := ⟨_, rfl⟩
        rw [← hxv] at hc
        obtain ⟨bv, hbv, hnd, hb0, hb7⟩ := nd_parts xv
        clear hnd hxv hk
        haveI : Nonempty (WC (Fr (fun k => k = q) wr)) := ⟨⟨wr, Fr.refl _ _⟩⟩
        have zr : ∀ z : WC (Fr (fun k => k = q) wr), z.val.cell? ⟨b, o + k, none⟩ = some (.int .i64 xv) := fun z => z.ok.cell hc hbq
        have hkz : (k : Int) < (la.length : Int) := by omega
        obtain ⟨wd, hwd⟩ : ∃ wd, wd = wr.drew := ⟨_, rfl⟩
        have fd : Gr wr wd := by rw [hwd]; exact (Fr.refl _ _).drew
        have VD := Lib.hid (VK.out.keep fd)
        have HWD := Lib.hid hwd
        have y0 := (Bx.of_block VD.out.blk) 0 _ rfl
        have y1 := (Bx.of_block VD.out.blk) 1 _ rfl
        have y2 := (Bx.of_block VD.out.blk) 2 _ rfl
        have y3 := (Bx.of_block VD.out.blk) 3 _ rfl
        have y4 := (Bx.of_block VD.out.blk) 4 _ rfl
        have CJ := Lib.hid (viewJoin_any v y (1 + bv) wd VD.out.at_)
        unfold VEnd0 at CJ
        obtain ⟨v', hv'⟩ : ∃ v', v' = vJoin v (1 + bv) := ⟨_, rfl⟩
        rw [← hv'] at CJ
        generalize vJoinOk v (1 + bv) = ok at CJ
        clear hc hbq hwd hv'
        go_upto_region 7 with fail
        refine wp_region_plan [0, 7, 11] (Plan.seq (List.range 12) .done) (fun w' => ∃ z : WC (Fr (fun k => k = q) wr), w' = z.val) (by kernel_rfl) (by kernel_rfl) (fun c a w d v h => by cases d <;> exact h) (fun c a w d v h => by cases d <;> exact h) ⟨⟨wr.drew, (Fr.refl _ _).drew⟩, rfl⟩ ?_
        rw [← HWD.out]
        clear HWD
        simp only [Plan.seq, List.range, List.range.loop, List.foldr]
        refine wpV_e (by simp only [List.getElem?_toArray, List.getElem?_cons_zero] <;> rfl) (by rfl) ?_
        go_wp2_with fail
        refine ⟨⟨⟨wd, Fr.mono (T := fun k => k = q) fd (fun _ _ h => h.elim)⟩, rfl⟩, ?_⟩
        repeat (refine wpV_q (by simp only [List.getElem?_toArray, List.getElem?_cons_succ, List.getElem?_cons_zero] <;> rfl) (by rfl) (by rfl) ?_; go_big_quiet_step (fail); refine wpQuiet_nil ?_)
        refine wpV_e (by simp only [List.getElem?_toArray, List.getElem?_cons_succ, List.getElem?_cons_zero] <;> rfl) (by rfl) ?_
        go_wp2_with fail
        refine CJ.out.mono ?_
        rintro e w5 ⟨y', rfl, h5, f5', k5⟩
        have f5 : Gr wr w5 := Gr.trans fd f5'
        have hqd := VD.out.lt
        have H5 := Lib.hid h5
        have AP5 := Lib.hid (VK.out.apart.next k5 (fun k h => by omega))
        have B5 := Lib.hid (blk_keep f5 VK.out.blk (fun h => h))
        have G5 := Lib.hid (Gr.trans VK.out.gr f5)
        have F5 := Lib.hid f5
        clear f5' k5 h5 f5 VK VD y0 y1 y2 y3 y4 fd CJ
        go_wp2_with fail
        refine ⟨⟨⟨w5, Fr.mono (T := fun k => k = q) F5.out (fun _ _ h => h.elim)⟩, rfl⟩, ?_⟩
        repeat (refine wpV_q (by simp only [List.getElem?_toArray, List.getElem?_cons_succ, List.getElem?_cons_zero] <;> rfl) (by rfl) (by rfl) ?_; go_big_quiet_step (fail); refine wpQuiet_nil ?_)
        refine wpV_e (by simp only [List.getElem?_toArray, List.getElem?_cons_succ, List.getElem?_cons_zero] <;> rfl) (by rfl) ?_
        go_wp2_with (refine wpList_storeW (vs := v'.arr y') B5.out (by rfl) 29 _ _ (by rfl) (by rfl) (by rfl) rfl Try.infoView (by rw [← Array.all_toList]; rfl) ?_)
        intro w6 f6 b6
        refine wpList_nil ?_
        refine ⟨⟨⟨w6, Fr.trans (Fr.mono (T := fun k => k = q) F5.out (fun _ _ h => h.elim)) f6 (fun k h => .inl h)⟩, rfl⟩, ?_⟩
        refine wpV_done ?_
        clear zr this
        have V6 : Hid (VarV w0 q w6 v' y') := Lib.hid ⟨b6, H5.out.keepA f6 AP5.out, AP5.out, fr_new G5.out f6 hWq⟩
        clear f6 b6 H5 AP5 B5 G5 F5
        go_wp2_with fail
        go_roundw
        case rel => exact ⟨k + 1, v', y', by go_num, hlt, V6.out⟩
        case measure => simp [intOf]; omega
      · rw [decide_eq_false hlt]
        clear hlt hk HN1 HA HA0 hqw
        have X1 := Lib.hid (blk_keep VK.out.gr X0.out (fun h => h))
        have x0 := (Bx.of_block X1.out) 0 _ rfl
        have x1 := (Bx.of_block X1.out) 1 _ rfl
        have x2 := (Bx.of_block X1.out) 2 _ rfl
        have x3 := (Bx.of_block X1.out) 3 _ rfl
        obtain ⟨fr, hfr⟩ : ∃ fr, bits .and .i64 n0 15 = fr := ⟨_, rfl⟩
        obtain ⟨no, hno⟩ : ∃ no, bits .and .i64 n1 15 = no := ⟨_, rfl⟩
        clear X0
        go_upto_region 8 with fail
        go_quiet (fail)
        obtain ⟨w4, hw4⟩ : ∃ w4, w4 = wr.drewN nq := ⟨_, rfl⟩
        rw [← hw4]
        have V4 := Lib.hid (VK.out.keep (show Gr wr w4 by rw [hw4]; exact (Fr.refl _ _).drewN nq))
        clear hw4 x0 x1 x2 x3 X1 VK hfr hno
        have y1 := (Bx.of_block V4.out.blk) 1 _ rfl
        have y2 := (Bx.of_block V4.out.blk) 2 _ rfl
        have CAll := Lib.hid (setAll_any y.aa y.ac v.act v.am w4 V4.out.at_.act V4.out.at_.good.act)
        go_wp2_with fail
        refine CAll.out.mono ?_
        rintro e w5 ⟨rv, rfl, own5, b5⟩
        have V5 := Lib.hid (V4.out.keep (Gr.of_below b5))
        obtain ⟨nx, hnx⟩ : ∃ nx, nx = nextV v.act fr no num := ⟨_, rfl⟩
        have CX := Lib.hid (refNext_any w4.heap.size rv v.act fr no num w5 own5 V5.out.at_.good.act.le V5.out.at_.good.act.len hnum.1 hnum.2)
        rw [← hnx] at CX
        have HJL := Lib.hid (join_law v fr no n2 n3 num V5.out.at_.good)
        have HML := Lib.hid (mix_law v fr no n2 num V5.out.at_.good)
        rw [← hnx] at HJL HML
        clear b5 own5 V4 y1 y2 CAll hnx
        go_wp2_with fail
        refine CX.out.mono ?_
        rintro e wr ⟨rfl, f6⟩
        have VK := Lib.hid (V5.out.keep f6)
        clear f6 V5 CX hz1 hz2 hzs hps hWw e1 e2 l1 l2 l3 l4 hWq
        obtain ⟨hnum0, hnum1⟩ := hnum
        obtain ⟨s1, s2, s3, s4, ho⟩ : ∃ s1 s2 s3 s4, wJoin v fr no n2 n3 [num] = (s1, s2, s3, s4) := ⟨_, _, _, _, rfl⟩
        rw [ho] at HJL
        have HO := Lib.hid ho
        clear ho
        go_upto_region 10 with fail
        haveI : Nonempty (WC (Gr wr)) := ⟨⟨wr, Fr.refl _ _⟩⟩
        have z0 : ∀ z : WC (Gr wr), z.val.cell? ⟨q, 0, none⟩ = some (.int .i64 v.self) := fun z => z.ok.cell ((Bx.of_block VK.out.blk) 0 _ rfl) (fun h => h)
        have z1 : ∀ z : WC (Gr wr), z.val.cell? ⟨q, 1, none⟩ = some (.slice y.aa v.act.length y.ac) := fun z => z.ok.cell ((Bx.of_block VK.out.blk) 1 _ rfl) (fun h => h)
        have z2 : ∀ z : WC (Gr wr), z.val.cell? ⟨q, 2, none⟩ = some (.int .i64 v.am) := fun z => z.ok.cell ((Bx.of_block VK.out.blk) 2 _ rfl) (fun h => h)
        have z3 : ∀ z : WC (Gr wr), z.val.cell? ⟨q, 3, none⟩ = some (.slice y.pa v.pas.length y.pc) := fun z => z.ok.cell ((Bx.of_block VK.out.blk) 3 _ rfl) (fun h => h)
        have z4 : ∀ z : WC (Gr wr), z.val.cell? ⟨q, 4, none⟩ = some (.int .i64 v.pm) := fun z => z.ok.cell ((Bx.of_block VK.out.blk) 4 _ rfl) (fun h => h)
        obtain ⟨wd, hwd⟩ : ∃ wd, wd = wr.drew := ⟨_, rfl⟩
        have FD := Lib.hid (show Gr wr wd by rw [hwd]; exact (Fr.refl _ _).drew)
        have HWD := Lib.hid hwd
        clear hwd
        go_cut [14] from 59 to 67 (fun c wx => ∃ g : Nat, c = .pointer (some ⟨g, 0, none⟩) ∧ wx.heap[g]? = some (.cells #[.bool s1, .int .i64 s2, .bool s3] 36 (0, 0)) ∧ Gr wr wx ∧ q < g)
        case first =>
          refine wp_region_plan [6, 7, 8, 9, 10] (Plan.seq [0, 1, 2, 3, 4, 5] (.fork 6 9 (.fork 7 9 (.fork 8 9 (Plan.seq [9, 10] .done) (Plan.seq [8, 10] .done)) (Plan.seq [7, 8, 10] .done)) (Plan.seq [6, 7, 8, 10] .done))) (fun w' => ∃ z : WC (Gr wr), w' = z.val) (by kernel_rfl) (by kernel_rfl) (fun c a w d v h => by cases d <;> exact h) (fun c a w d v h => by cases d <;> exact h) ⟨⟨wr.drew, (Fr.refl _ _).drew⟩, rfl⟩ ?_
          rw [← HWD.out]
          clear HWD
          simp only [Plan.seq, List.foldr]
          refine wpV_q (by simp only [List.getElem?_toArray, List.getElem?_cons_zero] <;> rfl) (by rfl) (by rfl) ?_
          go_big_quiet_step (fail)
          refine wpQuiet_nil ?_
          repeat (refine wpV_q (by simp only [List.getElem?_toArray, List.getElem?_cons_succ, List.getElem?_cons_zero] <;> rfl) (by rfl) (by rfl) ?_; go_big_quiet_step (fail); refine wpQuiet_nil ?_)
          refine wpV_fork (by simp only [List.getElem?_toArray, List.getElem?_cons_succ, List.getElem?_cons_zero] <;> rfl) (by simp only [List.getElem?_toArray, List.getElem?_cons_succ, List.getElem?_cons_zero] <;> rfl) ?_ ?_
          · go_wp2_with fail
            obtain ⟨w5, hS⟩ : ∃ x, x = World.alloc wd (.cells #[.int .u32 num] 24) := ⟨_, rfl⟩
            have fS : Gr wd w5 := by rw [hS]; exact (Fr.refl _ _).alloc _
            have sS : SlA w5 (some ⟨wd.heap.size, 0, none⟩) 1 1 ([num].map (Value.int .u32)) := ⟨Nat.le_refl _, by omega, fun j u hj => by
              refine ⟨_, 0, rfl, ?_⟩
              rw [hS, World.cell?_alloc_at _ _ _ _ rfl]
              simpa using hj⟩
            rw [← hS]
            clear hS
            have Gw5 := Lib.hid (Gr.trans FD.out fS)
            refine ⟨⟨⟨w5, Gw5.out⟩, rfl⟩, ?_⟩
            refine wpV_fork (by simp only [List.getElem?_toArray, List.getElem?_cons_succ, List.getElem?_cons_zero] <;> rfl) (by simp only [List.getElem?_toArray, List.getElem?_cons_succ, List.getElem?_cons_zero] <;> rfl) ?_ ?_
            · go_wp2_with fail
              refine (new_any (some ⟨wd.heap.size, 0, none⟩) 1 [num] w5 sS (by simp) (by simp; omega)).mono ?_
              rintro e w6 ⟨d, rfl, hd1, hd2, bl⟩
              have fN := Gr.of_below bl
              have Gw6 := Lib.hid (Gr.trans Gw5.out fN)
              have hdW : wr.heap.size ≤ d := by have := (Gw5.out).size; omega
              go_wp2_with fail
              refine ⟨⟨⟨w6, Gw6.out⟩, rfl⟩, ?_⟩
              refine wpV_fork (by simp only [List.getElem?_toArray, List.getElem?_cons_succ, List.getElem?_cons_zero] <;> rfl) (by simp only [List.getElem?_toArray, List.getElem?_cons_succ, List.getElem?_cons_zero] <;> rfl) ?_ ?_
              · go_wp2_with fail
                refine (walkJoin_any v y fr no n2 n3 (.pointer (some ⟨d, 0, none⟩)) [num] w6 (VK.out.at_.gr (Gw6.out)) (.inr ⟨d, rfl, hd2⟩)).mono ?_
                intro e w7 hsx
                unfold SEnd at hsx
                rw [HO.out] at hsx
                obtain ⟨rfl, -, fJ⟩ := hsx
                have Gw7 := Lib.hid (show Gr wr w7 from Fr.trans (Gw6.out) fJ (fun k h => .inr (by unfold pblk at h; cases h; exact hdW)))
                go_wp2_with fail
                refine ⟨⟨⟨w7, Gw7.out⟩, rfl⟩, ?_⟩
                refine wpV_e (by simp only [List.getElem?_toArray, List.getElem?_cons_succ, List.getElem?_cons_zero] <;> rfl) (by rfl) ?_
                go_wp2_with fail
                obtain ⟨w8, hA⟩ : ∃ x, x = World.alloc w7 (.cells stepZ 36) := ⟨_, rfl⟩
                have fA : Gr w7 w8 := by rw [hA]; exact (Fr.refl _ _).alloc _
                have bA : w8.heap[w7.heap.size]? = some (.cells stepZ 36 (0, 0)) := by rw [hA, heap_alloc_if, if_pos rfl]
                have hWg : wr.heap.size ≤ w7.heap.size := (Gw7.out).size
                rw [← hA]
                clear hA
                have Gw8 := Lib.hid (Gr.trans Gw7.out fA)
                refine ⟨⟨⟨w8, Gw8.out⟩, rfl⟩, ?_⟩
                refine wpV_e (by simp only [List.getElem?_toArray, List.getElem?_cons_succ, List.getElem?_cons_zero] <;> rfl) (by rfl) ?_
                go_wp2_with (refine wpList_storeW (vs := #[.bool s1, .int .i64 s2, .bool s3]) bA (by rfl) 36 _ _ (by rfl) (by rfl) (by rfl) rfl Try.infoStep (by rw [← Array.all_toList]; rfl) ?_)
                intro wz fz bz
                refine wpList_nil ?_
                have GZ := Lib.hid (show Gr wr wz from fr_new (Gw8.out) fz hWg)
                refine ⟨⟨⟨wz, GZ.out⟩, rfl⟩, ?_⟩
                refine wpV_done ?_
                have BZ := Lib.hid bz
                clear z0 z1 z2 z3 z4 this
                go_wp2_with fail
                go_meet
                exact ⟨w7.heap.size, rfl, BZ.out, GZ.out, by have := VK.out.lt; omega⟩
              · go_wp2_with fail
                obtain ⟨w7, hA⟩ : ∃ x, x = World.alloc w6 (.cells stepZ 36) := ⟨_, rfl⟩
                have fA : Gr w6 w7 := by rw [hA]; exact (Fr.refl _ _).alloc _
                have bA : w7.heap[w6.heap.size]? = some (.cells stepZ 36 (0, 0)) := by rw [hA, heap_alloc_if, if_pos rfl]
                have hWg : wr.heap.size ≤ w6.heap.size := (Gw6.out).size
                rw [← hA]
                clear hA
                have Gw7 := Lib.hid (Gr.trans Gw6.out fA)
                refine ⟨⟨⟨w7, Gw7.out⟩, rfl⟩, ?_⟩
                have hgd : d < w6.heap.size := hd2.lt
                replace hd2 := hd2.keep fA (fun _ _ h => h)
                refine wpV_e (by simp only [List.getElem?_toArray, List.getElem?_cons_succ, List.getElem?_cons_zero] <;> rfl) (by rfl) ?_
                go_wp2_with fail
                refine (walkJoin_any v y fr no n2 n3 (.pointer (some ⟨d, 0, none⟩)) [num] w7 (VK.out.at_.gr (Gw7.out)) (.inr ⟨d, rfl, hd2⟩)).mono ?_
                intro e w8 hsx
                unfold SEnd at hsx
                rw [HO.out] at hsx
                obtain ⟨rfl, -, fJ⟩ := hsx
                have Gw8 := Lib.hid (show Gr wr w8 from Fr.trans (Gw7.out) fJ (fun k h => .inr (by unfold pblk at h; cases h; exact hdW)))
                go_wp2_with fail
                refine ⟨⟨⟨w8, Gw8.out⟩, rfl⟩, ?_⟩
                replace bA := blk_keep fJ bA (fun h => by unfold pblk at h; cases h; omega)
                refine wpV_e (by simp only [List.getElem?_toArray, List.getElem?_cons_succ, List.getElem?_cons_zero] <;> rfl) (by rfl) ?_
                go_wp2_with (refine wpList_storeW (vs := #[.bool s1, .int .i64 s2, .bool s3]) bA (by rfl) 36 _ _ (by rfl) (by rfl) (by rfl) rfl Try.infoStep (by rw [← Array.all_toList]; rfl) ?_)
                intro wz fz bz
                refine wpList_nil ?_
                have GZ := Lib.hid (show Gr wr wz from fr_new (Gw8.out) fz hWg)
                refine ⟨⟨⟨wz, GZ.out⟩, rfl⟩, ?_⟩
                refine wpV_done ?_
                have BZ := Lib.hid bz
                clear z0 z1 z2 z3 z4 this
                go_wp2_with fail
                go_meet
                exact ⟨w6.heap.size, rfl, BZ.out, GZ.out, by have := VK.out.lt; omega⟩
            · go_wp2_with fail
              obtain ⟨w6, hA⟩ : ∃ x, x = World.alloc w5 (.cells stepZ 36) := ⟨_, rfl⟩
              have fA : Gr w5 w6 := by rw [hA]; exact (Fr.refl _ _).alloc _
              have bA : w6.heap[w5.heap.size]? = some (.cells stepZ 36 (0, 0)) := by rw [hA, heap_alloc_if, if_pos rfl]
              have hWg : wr.heap.size ≤ w5.heap.size := (Gw5.out).size
              rw [← hA]
              clear hA
              have Gw6 := Lib.hid (Gr.trans Gw5.out fA)
              refine ⟨⟨⟨w6, Gw6.out⟩, rfl⟩, ?_⟩
              replace sS := sS.keep fA (fun _ _ h => h)
              refine wpV_e (by simp only [List.getElem?_toArray, List.getElem?_cons_succ, List.getElem?_cons_zero] <;> rfl) (by rfl) ?_
              go_wp2_with fail
              refine (new_any (some ⟨wd.heap.size, 0, none⟩) 1 [num] w6 sS (by simp) (by simp; omega)).mono ?_
              rintro e w7 ⟨d, rfl, hd1, hd2, bl⟩
              have fN := Gr.of_below bl
              have Gw7 := Lib.hid (Gr.trans Gw6.out fN)
              have hdW : wr.heap.size ≤ d := by have := (Gw6.out).size; omega
              go_wp2_with fail
              refine ⟨⟨⟨w7, Gw7.out⟩, rfl⟩, ?_⟩
              have hgd : w5.heap.size < d := by have := (Array.getElem?_eq_some_iff.1 bA).1; omega
              replace bA := blk_keep fN bA (fun h => h)
              refine wpV_e (by simp only [List.getElem?_toArray, List.getElem?_cons_succ, List.getElem?_cons_zero] <;> rfl) (by rfl) ?_
              go_wp2_with fail
              refine (walkJoin_any v y fr no n2 n3 (.pointer (some ⟨d, 0, none⟩)) [num] w7 (VK.out.at_.gr (Gw7.out)) (.inr ⟨d, rfl, hd2⟩)).mono ?_
              intro e w8 hsx
              unfold SEnd at hsx
              rw [HO.out] at hsx
              obtain ⟨rfl, -, fJ⟩ := hsx
              have Gw8 := Lib.hid (show Gr wr w8 from Fr.trans (Gw7.out) fJ (fun k h => .inr (by unfold pblk at h; cases h; exact hdW)))
              go_wp2_with fail
              refine ⟨⟨⟨w8, Gw8.out⟩, rfl⟩, ?_⟩
              replace bA := blk_keep fJ bA (fun h => by unfold pblk at h; cases h; omega)
              refine wpV_e (by simp only [List.getElem?_toArray, List.getElem?_cons_succ, List.getElem?_cons_zero] <;> rfl) (by rfl) ?_
              go_wp2_with (refine wpList_storeW (vs := #[.bool s1, .int .i64 s2, .bool s3]) bA (by rfl) 36 _ _ (by rfl) (by rfl) (by rfl) rfl Try.infoStep (by rw [← Array.all_toList]; rfl) ?_)
              intro wz fz bz
              refine wpList_nil ?_
              have GZ := Lib.hid (show Gr wr wz from fr_new (Gw8.out) fz hWg)
              refine ⟨⟨⟨wz, GZ.out⟩, rfl⟩, ?_⟩
              refine wpV_done ?_
              have BZ := Lib.hid bz
              clear z0 z1 z2 z3 z4 this
              go_wp2_with fail
              go_meet
              exact ⟨w5.heap.size, rfl, BZ.out, GZ.out, by have := VK.out.lt; omega⟩
          · go_wp2_with fail
            obtain ⟨w5, hA⟩ : ∃ x, x = World.alloc wd (.cells stepZ 36) := ⟨_, rfl⟩
            have fA : Gr wd w5 := by rw [hA]; exact (Fr.refl _ _).alloc _
            have bA : w5.heap[wd.heap.size]? = some (.cells stepZ 36 (0, 0)) := by rw [hA, heap_alloc_if, if_pos rfl]
            have hWg : wr.heap.size ≤ wd.heap.size := (FD.out).size
            rw [← hA]
            clear hA
            have Gw5 := Lib.hid (Gr.trans FD.out fA)
            refine ⟨⟨⟨w5, Gw5.out⟩, rfl⟩, ?_⟩
            refine wpV_e (by simp only [List.getElem?_toArray, List.getElem?_cons_succ, List.getElem?_cons_zero] <;> rfl) (by rfl) ?_
            go_wp2_with fail
            obtain ⟨w6, hS⟩ : ∃ x, x = World.alloc w5 (.cells #[.int .u32 num] 24) := ⟨_, rfl⟩
            have fS : Gr w5 w6 := by rw [hS]; exact (Fr.refl _ _).alloc _
            have sS : SlA w6 (some ⟨w5.heap.size, 0, none⟩) 1 1 ([num].map (Value.int .u32)) := ⟨Nat.le_refl _, by omega, fun j u hj => by
              refine ⟨_, 0, rfl, ?_⟩
              rw [hS, World.cell?_alloc_at _ _ _ _ rfl]
              simpa using hj⟩
            rw [← hS]
            clear hS
            have Gw6 := Lib.hid (Gr.trans Gw5.out fS)
            refine ⟨⟨⟨w6, Gw6.out⟩, rfl⟩, ?_⟩
            replace bA := blk_keep fS bA (fun h => h)
            refine wpV_e (by simp only [List.getElem?_toArray, List.getElem?_cons_succ, List.getElem?_cons_zero] <;> rfl) (by rfl) ?_
            go_wp2_with fail
            refine (new_any (some ⟨w5.heap.size, 0, none⟩) 1 [num] w6 sS (by simp) (by simp; omega)).mono ?_
            rintro e w7 ⟨d, rfl, hd1, hd2, bl⟩
            have fN := Gr.of_below bl
            have Gw7 := Lib.hid (Gr.trans Gw6.out fN)
            have hdW : wr.heap.size ≤ d := by have := (Gw6.out).size; omega
            go_wp2_with fail
            refine ⟨⟨⟨w7, Gw7.out⟩, rfl⟩, ?_⟩
            have hgd : wd.heap.size < d := by have := (Array.getElem?_eq_some_iff.1 bA).1; omega
            replace bA := blk_keep fN bA (fun h => h)
            refine wpV_e (by simp only [List.getElem?_toArray, List.getElem?_cons_succ, List.getElem?_cons_zero] <;> rfl) (by rfl) ?_
            go_wp2_with fail
            refine (walkJoin_any v y fr no n2 n3 (.pointer (some ⟨d, 0, none⟩)) [num] w7 (VK.out.at_.gr (Gw7.out)) (.inr ⟨d, rfl, hd2⟩)).mono ?_
            intro e w8 hsx
            unfold SEnd at hsx
            rw [HO.out] at hsx
            obtain ⟨rfl, -, fJ⟩ := hsx
            have Gw8 := Lib.hid (show Gr wr w8 from Fr.trans (Gw7.out) fJ (fun k h => .inr (by unfold pblk at h; cases h; exact hdW)))
            go_wp2_with fail
            refine ⟨⟨⟨w8, Gw8.out⟩, rfl⟩, ?_⟩
            replace bA := blk_keep fJ bA (fun h => by unfold pblk at h; cases h; omega)
            refine wpV_e (by simp only [List.getElem?_toArray, List.getElem?_cons_succ, List.getElem?_cons_zero] <;> rfl) (by rfl) ?_
            go_wp2_with (refine wpList_storeW (vs := #[.bool s1, .int .i64 s2, .bool s3]) bA (by rfl) 36 _ _ (by rfl) (by rfl) (by rfl) rfl Try.infoStep (by rw [← Array.all_toList]; rfl) ?_)
            intro wz fz bz
            refine wpList_nil ?_
            have GZ := Lib.hid (show Gr wr wz from fr_new (Gw8.out) fz hWg)
            refine ⟨⟨⟨wz, GZ.out⟩, rfl⟩, ?_⟩
            refine wpV_done ?_
            have BZ := Lib.hid bz
            clear z0 z1 z2 z3 z4 this
            go_wp2_with fail
            go_meet
            exact ⟨wd.heap.size, rfl, BZ.out, GZ.out, by have := VK.out.lt; omega⟩
        case rest =>
          obtain ⟨g1, rfl, bg1, fg1, hq1⟩ := hcut
          replace VK := Lib.hid (VK.out.keep fg1)
          have B1 := Lib.hid bg1
          clear z0 z1 z2 z3 z4 this HWD FD bg1 fg1 HO
          obtain ⟨wr, hwr⟩ : ∃ x, x = wc := ⟨_, rfl⟩
          subst hwr
          obtain ⟨t1, t2, t3, t4, ho⟩ : ∃ s1 s2 s3 s4, wMix v fr no n2 [num] = (s1, s2, s3, s4) := ⟨_, _, _, _, rfl⟩
          rw [ho] at HML
          have HO2 := Lib.hid ho
          clear ho
          go_upto_region 11 with fail
          haveI : Nonempty (WC (Gr wr)) := ⟨⟨wr, Fr.refl _ _⟩⟩
          have z0 : ∀ z : WC (Gr wr), z.val.cell? ⟨q, 0, none⟩ = some (.int .i64 v.self) := fun z => z.ok.cell ((Bx.of_block VK.out.blk) 0 _ rfl) (fun h => h)
          have z1 : ∀ z : WC (Gr wr), z.val.cell? ⟨q, 1, none⟩ = some (.slice y.aa v.act.length y.ac) := fun z => z.ok.cell ((Bx.of_block VK.out.blk) 1 _ rfl) (fun h => h)
          have z2 : ∀ z : WC (Gr wr), z.val.cell? ⟨q, 2, none⟩ = some (.int .i64 v.am) := fun z => z.ok.cell ((Bx.of_block VK.out.blk) 2 _ rfl) (fun h => h)
          have z3 : ∀ z : WC (Gr wr), z.val.cell? ⟨q, 3, none⟩ = some (.slice y.pa v.pas.length y.pc) := fun z => z.ok.cell ((Bx.of_block VK.out.blk) 3 _ rfl) (fun h => h)
          have z4 : ∀ z : WC (Gr wr), z.val.cell? ⟨q, 4, none⟩ = some (.int .i64 v.pm) := fun z => z.ok.cell ((Bx.of_block VK.out.blk) 4 _ rfl) (fun h => h)
          obtain ⟨wd, hwd⟩ : ∃ wd, wd = wr.drew := ⟨_, rfl⟩
          have FD := Lib.hid (show Gr wr wd by rw [hwd]; exact (Fr.refl _ _).drew)
          have HWD := Lib.hid hwd
          clear hwd
          go_cut [15] from 68 to 75 (fun c wx => ∃ g : Nat, c = .pointer (some ⟨g, 0, none⟩) ∧ wx.heap[g]? = some (.cells #[.bool t1, .int .i64 t2, .bool t3] 36 (0, 0)) ∧ Gr wr wx ∧ q < g)
          case first =>
            refine wp_region_plan [5, 6, 7, 8, 9] (Plan.seq [0, 1, 2, 3, 4] (.fork 5 8 (.fork 6 8 (.fork 7 8 (Plan.seq [8, 9] .done) (Plan.seq [7, 9] .done)) (Plan.seq [6, 7, 9] .done)) (Plan.seq [5, 6, 7, 9] .done))) (fun w' => ∃ z : WC (Gr wr), w' = z.val) (by kernel_rfl) (by kernel_rfl) (fun c a w d v h => by cases d <;> exact h) (fun c a w d v h => by cases d <;> exact h) ⟨⟨wr.drew, (Fr.refl _ _).drew⟩, rfl⟩ ?_
            rw [← HWD.out]
            clear HWD
            simp only [Plan.seq, List.foldr]
            refine wpV_q (by simp only [List.getElem?_toArray, List.getElem?_cons_zero] <;> rfl) (by rfl) (by rfl) ?_
            go_big_quiet_step (fail)
            refine wpQuiet_nil ?_
            repeat (refine wpV_q (by simp only [List.getElem?_toArray, List.getElem?_cons_succ, List.getElem?_cons_zero] <;> rfl) (by rfl) (by rfl) ?_; go_big_quiet_step (fail); refine wpQuiet_nil ?_)
            refine wpV_fork (by simp only [List.getElem?_toArray, List.getElem?_cons_succ, List.getElem?_cons_zero] <;> rfl) (by simp only [List.getElem?_toArray, List.getElem?_cons_succ, List.getElem?_cons_zero] <;> rfl) ?_ ?_
            · go_wp2_with fail
              obtain ⟨w5, hS⟩ : ∃ x, x = World.alloc wd (.cells #[.int .u32 num] 24) := ⟨_, rfl⟩
              have fS : Gr wd w5 := by rw [hS]; exact (Fr.refl _ _).alloc _
              have sS : SlA w5 (some ⟨wd.heap.size, 0, none⟩) 1 1 ([num].map (Value.int .u32)) := ⟨Nat.le_refl _, by omega, fun j u hj => by
                refine ⟨_, 0, rfl, ?_⟩
                rw [hS, World.cell?_alloc_at _ _ _ _ rfl]
                simpa using hj⟩
              rw [← hS]
              clear hS
              have Gw5 := Lib.hid (Gr.trans FD.out fS)
              refine ⟨⟨⟨w5, Gw5.out⟩, rfl⟩, ?_⟩
              refine wpV_fork (by simp only [List.getElem?_toArray, List.getElem?_cons_succ, List.getElem?_cons_zero] <;> rfl) (by simp only [List.getElem?_toArray, List.getElem?_cons_succ, List.getElem?_cons_zero] <;> rfl) ?_ ?_
              · go_wp2_with fail
                refine (new_any (some ⟨wd.heap.size, 0, none⟩) 1 [num] w5 sS (by simp) (by simp; omega)).mono ?_
                rintro e w6 ⟨d, rfl, hd1, hd2, bl⟩
                have fN := Gr.of_below bl
                have Gw6 := Lib.hid (Gr.trans Gw5.out fN)
                have hdW : wr.heap.size ≤ d := by have := (Gw5.out).size; omega
                go_wp2_with fail
                refine ⟨⟨⟨w6, Gw6.out⟩, rfl⟩, ?_⟩
                refine wpV_fork (by simp only [List.getElem?_toArray, List.getElem?_cons_succ, List.getElem?_cons_zero] <;> rfl) (by simp only [List.getElem?_toArray, List.getElem?_cons_succ, List.getElem?_cons_zero] <;> rfl) ?_ ?_
                · go_wp2_with fail
                  refine (walkMix_any v y fr no n2 (.pointer (some ⟨d, 0, none⟩)) [num] w6 (VK.out.at_.gr (Gw6.out)) (.inr ⟨d, rfl, hd2⟩)).mono ?_
                  intro e w7 hsx
                  unfold SEnd at hsx
                  rw [HO2.out] at hsx
                  obtain ⟨rfl, -, fJ⟩ := hsx
                  have Gw7 := Lib.hid (show Gr wr w7 from Fr.trans (Gw6.out) fJ (fun k h => .inr (by unfold pblk at h; cases h; exact hdW)))
                  go_wp2_with fail
                  refine ⟨⟨⟨w7, Gw7.out⟩, rfl⟩, ?_⟩
                  refine wpV_e (by simp only [List.getElem?_toArray, List.getElem?_cons_succ, List.getElem?_cons_zero] <;> rfl) (by rfl) ?_
                  go_wp2_with fail
                  obtain ⟨w8, hA⟩ : ∃ x, x = World.alloc w7 (.cells stepZ 36) := ⟨_, rfl⟩
                  have fA : Gr w7 w8 := by rw [hA]; exact (Fr.refl _ _).alloc _
                  have bA : w8.heap[w7.heap.size]? = some (.cells stepZ 36 (0, 0)) := by rw [hA, heap_alloc_if, if_pos rfl]
                  have hWg : wr.heap.size ≤ w7.heap.size := (Gw7.out).size
                  rw [← hA]
                  clear hA
                  have Gw8 := Lib.hid (Gr.trans Gw7.out fA)
                  refine ⟨⟨⟨w8, Gw8.out⟩, rfl⟩, ?_⟩
                  refine wpV_e (by simp only [List.getElem?_toArray, List.getElem?_cons_succ, List.getElem?_cons_zero] <;> rfl) (by rfl) ?_
                  go_wp2_with (refine wpList_storeW (vs := #[.bool t1, .int .i64 t2, .bool t3]) bA (by rfl) 36 _ _ (by rfl) (by rfl) (by rfl) rfl Try.infoStep (by rw [← Array.all_toList]; rfl) ?_)
                  intro wz fz bz
                  refine wpList_nil ?_
                  have GZ := Lib.hid (show Gr wr wz from fr_new (Gw8.out) fz hWg)
                  refine ⟨⟨⟨wz, GZ.out⟩, rfl⟩, ?_⟩
                  refine wpV_done ?_
                  have BZ := Lib.hid bz
                  clear z0 z1 z2 z3 z4 this
                  go_wp2_with fail
                  go_meet
                  exact ⟨w7.heap.size, rfl, BZ.out, GZ.out, by have := VK.out.lt; omega⟩
                · go_wp2_with fail
                  obtain ⟨w7, hA⟩ : ∃ x, x = World.alloc w6 (.cells stepZ 36) := ⟨_, rfl⟩
                  have fA : Gr w6 w7 := by rw [hA]; exact (Fr.refl _ _).alloc _
                  have bA : w7.heap[w6.heap.size]? = some (.cells stepZ 36 (0, 0)) := by rw [hA, heap_alloc_if, if_pos rfl]
                  have hWg : wr.heap.size ≤ w6.heap.size := (Gw6.out).size
                  rw [← hA]
                  clear hA
                  have Gw7 := Lib.hid (Gr.trans Gw6.out fA)
                  refine ⟨⟨⟨w7, Gw7.out⟩, rfl⟩, ?_⟩
                  have hgd : d < w6.heap.size := hd2.lt
                  replace hd2 := hd2.keep fA (fun _ _ h => h)
                  refine wpV_e (by simp only [List.getElem?_toArray, List.getElem?_cons_succ, List.getElem?_cons_zero] <;> rfl) (by rfl) ?_
                  go_wp2_with fail
                  refine (walkMix_any v y fr no n2 (.pointer (some ⟨d, 0, none⟩)) [num] w7 (VK.out.at_.gr (Gw7.out)) (.inr ⟨d, rfl, hd2⟩)).mono ?_
                  intro e w8 hsx
                  unfold SEnd at hsx
                  rw [HO2.out] at hsx
                  obtain ⟨rfl, -, fJ⟩ := hsx
                  have Gw8 := Lib.hid (show Gr wr w8 from Fr.trans (Gw7.out) fJ (fun k h => .inr (by unfold pblk at h; cases h; exact hdW)))
                  go_wp2_with fail
                  refine ⟨⟨⟨w8, Gw8.out⟩, rfl⟩, ?_⟩
                  replace bA := blk_keep fJ bA (fun h => by unfold pblk at h; cases h; omega)
                  refine wpV_e (by simp only [List.getElem?_toArray, List.getElem?_cons_succ, List.getElem?_cons_zero] <;> rfl) (by rfl) ?_
                  go_wp2_with (refine wpList_storeW (vs := #[.bool t1, .int .i64 t2, .bool t3]) bA (by rfl) 36 _ _ (by rfl) (by rfl) (by rfl) rfl Try.infoStep (by rw [← Array.all_toList]; rfl) ?_)
                  intro wz fz bz
                  refine wpList_nil ?_
                  have GZ := Lib.hid (show Gr wr wz from fr_new (Gw8.out) fz hWg)
                  refine ⟨⟨⟨wz, GZ.out⟩, rfl⟩, ?_⟩
                  refine wpV_done ?_
                  have BZ := Lib.hid bz
                  clear z0 z1 z2 z3 z4 this
                  go_wp2_with fail
                  go_meet
                  exact ⟨w6.heap.size, rfl, BZ.out, GZ.out, by have := VK.out.lt; omega⟩
              · go_wp2_with fail
                obtain ⟨w6, hA⟩ : ∃ x, x = World.alloc w5 (.cells stepZ 36) := ⟨_, rfl⟩
                have fA : Gr w5 w6 := by rw [hA]; exact (Fr.refl _ _).alloc _
                have bA : w6.heap[w5.heap.size]? = some (.cells stepZ 36 (0, 0)) := by rw [hA, heap_alloc_if, if_pos rfl]
                have hWg : wr.heap.size ≤ w5.heap.size := (Gw5.out).size
                rw [← hA]
                clear hA
                have Gw6 := Lib.hid (Gr.trans Gw5.out fA)
                refine ⟨⟨⟨w6, Gw6.out⟩, rfl⟩, ?_⟩
                replace sS := sS.keep fA (fun _ _ h => h)
                refine wpV_e (by simp only [List.getElem?_toArray, List.getElem?_cons_succ, List.getElem?_cons_zero] <;> rfl) (by rfl) ?_
                go_wp2_with fail
                refine (new_any (some ⟨wd.heap.size, 0, none⟩) 1 [num] w6 sS (by simp) (by simp; omega)).mono ?_
                rintro e w7 ⟨d, rfl, hd1, hd2, bl⟩
                have fN := Gr.of_below bl
                have Gw7 := Lib.hid (Gr.trans Gw6.out fN)
                have hdW : wr.heap.size ≤ d := by have := (Gw6.out).size; omega
                go_wp2_with fail
                refine ⟨⟨⟨w7, Gw7.out⟩, rfl⟩, ?_⟩
                have hgd : w5.heap.size < d := by have := (Array.getElem?_eq_some_iff.1 bA).1; omega
                replace bA := blk_keep fN bA (fun h => h)
                refine wpV_e (by simp only [List.getElem?_toArray, List.getElem?_cons_succ, List.getElem?_cons_zero] <;> rfl) (by rfl) ?_
                go_wp2_with fail
                refine (walkMix_any v y fr no n2 (.pointer (some ⟨d, 0, none⟩)) [num] w7 (VK.out.at_.gr (Gw7.out)) (.inr ⟨d, rfl, hd2⟩)).mono ?_
                intro e w8 hsx
                unfold SEnd at hsx
                rw [HO2.out] at hsx
                obtain ⟨rfl, -, fJ⟩ := hsx
                have Gw8 := Lib.hid (show Gr wr w8 from Fr.trans (Gw7.out) fJ (fun k h => .inr (by unfold pblk at h; cases h; exact hdW)))
                go_wp2_with fail
                refine ⟨⟨⟨w8, Gw8.out⟩, rfl⟩, ?_⟩
                replace bA := blk_keep fJ bA (fun h => by unfold pblk at h; cases h; omega)
                refine wpV_e (by simp only [List.getElem?_toArray, List.getElem?_cons_succ, List.getElem?_cons_zero] <;> rfl) (by rfl) ?_
                go_wp2_with (refine wpList_storeW (vs := #[.bool t1, .int .i64 t2, .bool t3]) bA (by rfl) 36 _ _ (by rfl) (by rfl) (by rfl) rfl Try.infoStep (by rw [← Array.all_toList]; rfl) ?_)
                intro wz fz bz
                refine wpList_nil ?_
                have GZ := Lib.hid (show Gr wr wz from fr_new (Gw8.out) fz hWg)
                refine ⟨⟨⟨wz, GZ.out⟩, rfl⟩, ?_⟩
                refine wpV_done ?_
                have BZ := Lib.hid bz
                clear z0 z1 z2 z3 z4 this
                go_wp2_with fail
                go_meet
                exact ⟨w5.heap.size, rfl, BZ.out, GZ.out, by have := VK.out.lt; omega⟩
            · go_wp2_with fail
              obtain ⟨w5, hA⟩ : ∃ x, x = World.alloc wd (.cells stepZ 36) := ⟨_, rfl⟩
              have fA : Gr wd w5 := by rw [hA]; exact (Fr.refl _ _).alloc _
              have bA : w5.heap[wd.heap.size]? = some (.cells stepZ 36 (0, 0)) := by rw [hA, heap_alloc_if, if_pos rfl]
              have hWg : wr.heap.size ≤ wd.heap.size := (FD.out).size
              rw [← hA]
              clear hA
              have Gw5 := Lib.hid (Gr.trans FD.out fA)
              refine ⟨⟨⟨w5, Gw5.out⟩, rfl⟩, ?_⟩
              refine wpV_e (by simp only [List.getElem?_toArray, List.getElem?_cons_succ, List.getElem?_cons_zero] <;> rfl) (by rfl) ?_
              go_wp2_with fail
              obtain ⟨w6, hS⟩ : ∃ x, x = World.alloc w5 (.cells #[.int .u32 num] 24) := ⟨_, rfl⟩
              have fS : Gr w5 w6 := by rw [hS]; exact (Fr.refl _ _).alloc _
              have sS : SlA w6 (some ⟨w5.heap.size, 0, none⟩) 1 1 ([num].map (Value.int .u32)) := ⟨Nat.le_refl _, by omega, fun j u hj => by
                refine ⟨_, 0, rfl, ?_⟩
                rw [hS, World.cell?_alloc_at _ _ _ _ rfl]
                simpa using hj⟩
              rw [← hS]
              clear hS
              have Gw6 := Lib.hid (Gr.trans Gw5.out fS)
              refine ⟨⟨⟨w6, Gw6.out⟩, rfl⟩, ?_⟩
              replace bA := blk_keep fS bA (fun h => h)
              refine wpV_e (by simp only [List.getElem?_toArray, List.getElem?_cons_succ, List.getElem?_cons_zero] <;> rfl) (by rfl) ?_
              go_wp2_with fail
              refine (new_any (some ⟨w5.heap.size, 0, none⟩) 1 [num] w6 sS (by simp) (by simp; omega)).mono ?_
              rintro e w7 ⟨d, rfl, hd1, hd2, bl⟩
              have fN := Gr.of_below bl
              have Gw7 := Lib.hid (Gr.trans Gw6.out fN)
              have hdW : wr.heap.size ≤ d := by have := (Gw6.out).size; omega
              go_wp2_with fail
              refine ⟨⟨⟨w7, Gw7.out⟩, rfl⟩, ?_⟩
              have hgd : wd.heap.size < d := by have := (Array.getElem?_eq_some_iff.1 bA).1; omega
              replace bA := blk_keep fN bA (fun h => h)
              refine wpV_e (by simp only [List.getElem?_toArray, List.getElem?_cons_succ, List.getElem?_cons_zero] <;> rfl) (by rfl) ?_
              go_wp2_with fail
              refine (walkMix_any v y fr no n2 (.pointer (some ⟨d, 0, none⟩)) [num] w7 (VK.out.at_.gr (Gw7.out)) (.inr ⟨d, rfl, hd2⟩)).mono ?_
              intro e w8 hsx
              unfold SEnd at hsx
              rw [HO2.out] at hsx
              obtain ⟨rfl, -, fJ⟩ := hsx
              have Gw8 := Lib.hid (show Gr wr w8 from Fr.trans (Gw7.out) fJ (fun k h => .inr (by unfold pblk at h; cases h; exact hdW)))
              go_wp2_with fail
              refine ⟨⟨⟨w8, Gw8.out⟩, rfl⟩, ?_⟩
              replace bA := blk_keep fJ bA (fun h => by unfold pblk at h; cases h; omega)
              refine wpV_e (by simp only [List.getElem?_toArray, List.getElem?_cons_succ, List.getElem?_cons_zero] <;> rfl) (by rfl) ?_
              go_wp2_with (refine wpList_storeW (vs := #[.bool t1, .int .i64 t2, .bool t3]) bA (by rfl) 36 _ _ (by rfl) (by rfl) (by rfl) rfl Try.infoStep (by rw [← Array.all_toList]; rfl) ?_)
              intro wz fz bz
              refine wpList_nil ?_
              have GZ := Lib.hid (show Gr wr wz from fr_new (Gw8.out) fz hWg)
              refine ⟨⟨⟨wz, GZ.out⟩, rfl⟩, ?_⟩
              refine wpV_done ?_
              have BZ := Lib.hid bz
              clear z0 z1 z2 z3 z4 this
              go_wp2_with fail
              go_meet
              exact ⟨wd.heap.size, rfl, BZ.out, GZ.out, by have := VK.out.lt; omega⟩
          case rest =>
            obtain ⟨g2, rfl, bg2, fg2, hq2⟩ := hcut
            replace VK := Lib.hid (VK.out.keep fg2)
            replace B1 := Lib.hid (blk_keep fg2 B1.out (fun h => h))
            have B2 := Lib.hid bg2
            clear z0 z1 z2 z3 z4 this HWD FD bg2 fg2 HO2
            obtain ⟨wr, hwr⟩ : ∃ x, x = wc := ⟨_, rfl⟩
            subst hwr
            simp only at HML
            clear hnum0 hnum1 hq1 hq2
            go_upto_region 12 with fail
            refine wp_tail ?_ (by assumption)
            exact ws_tail hp1 hp2 F0 HJL HML VK B1 B2
end Go.Proofs.Ytdpnkikaciigoaa
