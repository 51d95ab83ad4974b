/-
  The walk of WalkEnds (printed by gen_wends.py).
-/
import Derived.Test.YtdpnkikaciigoaaWELaw
import Derived.Test.YtdpnkikaciigoaaWalkSteps
namespace Go.Proofs.Ytdpnkikaciigoaa
open Go.RowKit Go.Proofs

theorem Try.infoU8x6 : (Try.prog.info? 71).map (·.size) = some 6 := by kernel_rfl

set_option maxHeartbeats 16000000 in
set_option maxRecDepth 100000 in
theorem walkEnds_walk (l0 l1 l2 l3 l4 l5 nd lf : Int) (a1 : Option Addr) (c1 : Nat) (lc : List Int) (W : World) (r0 : 0 ≤ l0 ∧ l0 ≤ 255) (r1 : 0 ≤ l1 ∧ l1 ≤ 255) (r2 : 0 ≤ l2 ∧ l2 ≤ 255) (r3 : 0 ≤ l3 ∧ l3 ≤ 255) (r4 : 0 ≤ l4 ∧ l4 ≤ 255) (r5 : 0 ≤ l5 ∧ l5 ≤ 255) (rn : 0 ≤ nd ∧ nd ≤ 255) (rf : 0 ≤ lf ∧ lf ≤ 255)
    (hc : SlA W a1 lc.length c1 (lc.map (Value.int .u32))) (hcr : ∀ x ∈ lc, 0 ≤ x ∧ x < 4294967296) (hcb : lc.length * 4 ≤ 140737488355328) :
    Calls Try.prog 7 #[.agg #[.int .u8 l0, .int .u8 l1, .int .u8 l2, .int .u8 l3, .int .u8 l4, .int .u8 l5, .int .u8 nd, .int .u8 lf, .slice a1 lc.length c1]] W fun e w' => e = .returned (.bool true) ∧ Gr W w' := by
  obtain ⟨iz, hz1, hz2, hzs⟩ := info_pair Try.zeroView
  obtain ⟨ip, hp1, hp2, hps⟩ := info_pair Try.zeroStep
  obtain ⟨ix, hx1, hx2, hxs⟩ := info_pair (show (Try.prog.info? 71).map (fun i => (i.zero, i.size)) = some (some (.agg #[.int .u8 0, .int .u8 0, .int .u8 0, .int .u8 0, .int .u8 0, .int .u8 0]), 6) by kernel_rfl)
  obtain ⟨w0, hw0⟩ : ∃ w0, w0 = W.alloc (.cells #[.int .u8 l0, .int .u8 l1, .int .u8 l2, .int .u8 l3, .int .u8 l4, .int .u8 l5, .int .u8 nd, .int .u8 lf, .slice a1 lc.length c1] 73) := ⟨_, rfl⟩
  have f0 : Gr W w0 := by rw [hw0]; exact (Fr.refl _ _).alloc _
  have X0 := Lib.hid (show w0.heap[W.heap.size]? = some (.cells #[.int .u8 l0, .int .u8 l1, .int .u8 l2, .int .u8 l3, .int .u8 l4, .int .u8 l5, .int .u8 nd, .int .u8 lf, .slice a1 lc.length c1] 73 (0, 0)) by rw [hw0, heap_alloc_if, if_pos rfl])
  have F0 := Lib.hid f0
  have HW0 := Lib.hid hw0
  have HC := Lib.hid hc
  have HCR := Lib.hid hcr
  have S0 := Lib.hid (speaks10_any w0)
  have e3 := hc.le
  have e4 := hc.max
  clear hw0 f0 hc hcr
  go_enter Try.func7, Try.ntmps7
  go_upto_region 1 with fail
  rw [← HW0.out]
  clear HW0
  go_wp2_with fail
  refine S0.out.mono ?_
  rintro e w1 ⟨rfl, f1⟩
  have F1 := Lib.hid (Gr.trans F0.out f1)
  have X1 := Lib.hid (blk_keep f1 X0.out (fun h => h))
  have y0 := (Bx.of_block X1.out) 0 _ rfl
  have y1 := (Bx.of_block X1.out) 1 _ rfl
  have y2 := (Bx.of_block X1.out) 2 _ rfl
  have y3 := (Bx.of_block X1.out) 3 _ rfl
  have y4 := (Bx.of_block X1.out) 4 _ rfl
  have y5 := (Bx.of_block X1.out) 5 _ rfl
  clear f1 X0 F0 S0
  go_wp2_with (refine wpList_fresh (vs := #[.int .u8 l0, .int .u8 l1, .int .u8 l2, .int .u8 l3, .int .u8 l4, .int .u8 l5]) hx1 hx2 Try.infoU8x6 (by rfl) (by rw [← Array.all_toList]; rfl) (by rfl) (by rfl) ?_)
  intro w2 f2 b2 s2
  obtain ⟨q3, hq3⟩ : ∃ q, q = w1.heap.size := ⟨_, rfl⟩
  rw [← hq3] at b2 s2 ⊢
  have F2 := Lib.hid (Gr.trans F1.out f2)
  have hWq3 : W.heap.size ≤ q3 := by rw [hq3]; exact F1.out.size
  have LK2 : Hid (LinksAt w2 q3) := Lib.hid ⟨l0, l1, l2, l3, l4, l5, b2, r0, r1, r2, r3, r4, r5⟩
  have X2 := Lib.hid (blk_keep f2 X1.out (fun h => h))
  have y8 := (Bx.of_block X2.out) 8 _ rfl
  clear f2 b2 X1 F1 y0 y1 y2 y3 y4 y5 hq3 r0 r1 r2 r3 r4 r5
  have CD := Lib.hid (new_any a1 c1 lc w2 (HC.out.keep F2.out (fun _ _ h => h)) hcb HCR.out)
  go_upto_region 4 with fail
  go_wp2_with fail
  refine CD.out.mono ?_
  rintro e w4 ⟨d, rfl, hd3, hd4, bl4⟩
  have F4 := Lib.hid (Gr.trans F2.out (Gr.of_below bl4))
  have LK4 := Lib.hid (LK2.out.keep (Gr.of_below bl4) (fun h => h))
  have X4 := Lib.hid (blk_keep (Gr.of_below bl4) X2.out (fun h => h))
  obtain ⟨dp, hdp⟩ : ∃ dp, dp = Value.pointer (some ⟨d, 0, none⟩) := ⟨_, rfl⟩
  have D4 := Lib.hid (show DrawV w4 dp lc from .inr ⟨d, hdp, hd4⟩)
  have hW2 := F2.out.size
  have HPW := Lib.hid (show ∀ k, pblk dp k → W.heap.size ≤ k from fun k hk => by rw [hdp] at hk; unfold pblk at hk; cases hk; omega)
  rw [← hdp]
  have y6 := (Bx.of_block X4.out) 6 _ rfl
  have y7 := (Bx.of_block X4.out) 7 _ rfl
  obtain ⟨nj, hnj, hnj6⟩ := tmod_small rn.1 (show (0 : Int) < 6 by omega)
  obtain ⟨cn, hcn, hcn20⟩ := tmod_small rf.1 (show (0 : Int) < 20 by omega)
  clear hd3 hd4 bl4 CD hdp hW2 X2 y8 F2 LK2 HC HCR hcb
  go_upto_region 5 with fail
  go_quiet (fail)
  obtain ⟨wq, hwq⟩ : ∃ wq, wq = w4.drewN nq := ⟨_, rfl⟩
  rw [← hwq]
  have fq : Gr w4 wq := by rw [hwq]; exact (Fr.refl _ _).drewN nq
  have FQ := Lib.hid (Gr.trans F4.out fq)
  have LKQ := Lib.hid (LK4.out.keep fq (fun h => h))
  have DQ := Lib.hid (D4.out.keep fq)
  clear hwq fq y6 y7 X4 F4 LK4 D4 hnj hcn rn rf
  go_upto_region 6 with fail
  go_wp2_with fail
  go_loopw [7] (fun iv wr => ∃ (k : Nat) (ds : List Int), iv = .int .i64 k ∧ k ≤ 2 ∧ Gr W wr ∧ LinksAt wr q3 ∧ DrawV wr dp ds) (fun iv _ => 2 - (intOf iv).toNat)
  case atStart => exact ⟨0, lc, rfl, by omega, FQ.out, LKQ.out, DQ.out⟩
  case round =>
    clear FQ LKQ DQ
    obtain ⟨kd, ds, rfl, hk, hf, hl, hd⟩ := hrel
    have FK := Lib.hid hf
    have LK := Lib.hid hl
    have DK := Lib.hid hd
    obtain ⟨x0, y0, hx0, hx1⟩ := hl.at_ (show 0 < 6 by omega)
    obtain ⟨j0, hj0, hj6⟩ := tmod_small hx0 (show (0 : Int) < 6 by omega)
    clear hf hl hd
    by_cases hlt : kd < 2
    · have hki : (kd : Int) < 2 := by omega
      go_upto_region 10 with fail
      clear hj0 hx0 hx1 y0
      go_wp2_with fail
      go_loopw [8, 9, 10, 11] (fun av fv nv sv wr => ∃ (j m st : Nat) (fr : Int) (ds : List Int), av = .int .i64 (1 + (j : Int)) ∧ fv = .int .i64 fr ∧ nv = .int .i64 m ∧ sv = .int .i64 st ∧ j < 6 ∧ st + m = cn ∧ Gr W wr ∧ LinksAt wr q3 ∧ DrawV wr dp ds) (fun _ _ nv _ _ => (intOf nv).toNat)
      case atStart => exact ⟨j0, cn, 0, 0, ds, rfl, rfl, rfl, rfl, by omega, by omega, FK.out, LK.out, DK.out⟩
      case round =>
        clear FK LK DK hj6 hk
        obtain ⟨j, m, st, fr, ds, rfl, rfl, rfl, rfl, hj, hst, hf, hl, hd⟩ := hrel
        have FK := Lib.hid hf
        have LK := Lib.hid hl
        have DK := Lib.hid hd
        clear hf hl hd
        have CN := Lib.hid (viewNew_any (1 + (j : Int)) 8 8 wr)
        rw [vwNew_id (1 + (j : Int)) 8 8 (by omega) (by omega)] at CN
        go_wp2_with fail
        refine CN.out.mono ?_
        rintro e w2 ⟨rfl, f2⟩
        have F2 := Lib.hid (Gr.trans FK.out f2)
        have LK2 := Lib.hid (LK.out.keep f2 (fun h => h))
        have D2 := Lib.hid (DK.out.keep f2)
        clear f2 CN FK LK DK
        go_wp2_with (refine wpList_fresh (vs := (⟨1 + (j : Int), [], 8, [], 8⟩ : Vw).arr vwNone) hz1 hz2 Try.infoView (by rfl) (by rw [← Array.all_toList]; rfl) (by rfl) (by rfl) ?_)
        intro w3 f3 b3 s3
        obtain ⟨q, hq⟩ : ∃ q, q = w2.heap.size := ⟨_, rfl⟩
        rw [← hq] at b3 s3 ⊢
        have hWq : W.heap.size ≤ q := by rw [hq]; exact F2.out.size
        have LK3 := Lib.hid (LK2.out.keep f3 (fun h => h))
        have D3 := Lib.hid (D2.out.keep f3)
        have V3 : Hid (VarV W q w3 ⟨1 + (j : Int), [], 8, [], 8⟩ vwNone) := Lib.hid ⟨b3, ⟨SlA.nil _, SlA.nil _, (WeV.new j).good⟩, VwApart.none _ _, Gr.trans F2.out f3⟩
        have hq3 : q3 ≠ q := by obtain ⟨_, _, _, _, _, _, hb, -⟩ := LK2.out; have := (Array.getElem?_eq_some_iff.1 hb).1; omega
        clear f3 b3 s3 hq F2 LK2 D2
        go_upto_region 12 with fail
        go_wp2_with fail
        go_loopw [13] (fun iv wr => ∃ (k : Nat) (v : Vw) (y : VwP), iv = .int .i64 k ∧ k ≤ 6 ∧ Hid (WeV v j) ∧ VarV W q wr v y ∧ LinksAt wr q3 ∧ DrawV wr dp ds ∧ VwSep dp y) (fun iv _ => 6 - (intOf iv).toNat)
        case atStart => exact ⟨0, _, vwNone, rfl, by omega, Lib.hid (WeV.new j), V3.out, LK3.out, D3.out, vwNone_sep _⟩
        case round =>
          clear V3 LK3 D3
          obtain ⟨k, v, y, rfl, hk6, WV, hv, hl, hd, hsep⟩ := hrel
          have VK := Lib.hid hv
          have DK := Lib.hid hd
          have LK := Lib.hid hl
          have SEP := Lib.hid hsep
          have hqw := hv.lt
          have l1 := hv.at_.act.le
          have l2 := hv.at_.act.max
          have l3 := hv.at_.pas.le
          have l4 := hv.at_.pas.max
          obtain ⟨xj, yj, hj0, hj1⟩ := hl.at_ hj
          clear hv hd hsep hl
          by_cases hlt6 : k < 6
          · have hki6 : (k : Int) < 6 := by omega
            have CJ := Lib.hid (viewJoin_any v y ((k : Int) + 1) wr VK.out.at_)
            unfold VEnd0 at CJ
            obtain ⟨v', hv'⟩ : ∃ v', v' = vJoin v ((k : Int) + 1) := ⟨_, rfl⟩
            have WV' : Hid (WeV v' j) := Lib.hid (by rw [hv']; exact WV.out.join (by omega))
            rw [← hv'] at CJ
            generalize vJoinOk v ((k : Int) + 1) = ok at CJ
            clear hv'
            go_upto_region 16 with fail
            case roundEnd => exact ⟨⟨k + 1, by omega, hlt6, v, WV, y, VK.out, LK.out, DK.out, SEP.out⟩, by simp [intOf]; omega⟩
            clear yj hj0 hj1 hk6
            refine wp_region_lit ?_
            refine wpList_load_mid (by rfl) 29 _ (by rfl) q 0 (by rfl) (Array.toList (v.arr y)) _ (blk_range VK.out.blk) Try.underlying29 rfl Try.infoView ?_
            go_wp2_with fail
            refine CJ.out.mono ?_
            rintro e w5 ⟨y', rfl, h5, f5, k5⟩
            have hqd := VK.out.lt
            have H5 := Lib.hid h5
            have AP5 := Lib.hid (VK.out.apart.next k5 (fun k h => by omega))
            have SEP5 := Lib.hid (SEP.out.of_from DK.out k5)
            have B5 := Lib.hid (blk_keep f5 VK.out.blk (fun h => h))
            have G5 := Lib.hid (Gr.trans VK.out.gr f5)
            have D5 := Lib.hid (DK.out.keep f5)
            have LK5 := Lib.hid (LK.out.keep f5 (fun h => h))
            clear f5 k5 h5 VK CJ SEP DK LK
            go_wp2_with (refine wpList_storeW (vs := v'.arr y') B5.out (by rfl) 29 _ _ (by rfl) (by rfl) (by rfl) rfl Try.infoView (by rw [← Array.all_toList]; rfl) ?_)
            intro w6 f6 b6
            have V6 : Hid (VarV W q w6 v' y') := Lib.hid ⟨b6, H5.out.keepA f6 AP5.out, AP5.out, fr_new G5.out f6 hWq⟩
            have D6 := Lib.hid (D5.out.keepV f6 B5.out).1
            have LK6 := Lib.hid (LK5.out.keep f6 hq3)
            clear f6 b6 H5 AP5 B5 G5 D5 LK5
            go_wp2_with fail
            go_roundw
            case rel => exact ⟨k + 1, v', y', by go_num, hlt6, WV', V6.out, LK6.out, D6.out, SEP5.out⟩
            case measure => simp [intOf]; omega
          · have hk : k = 6 := by omega
            subst hk
            clear hlt6 hk6 yj hj0 hj1 xj
            have CJ := Lib.hid (fun w (h : VwAt w v y) (hd : DrawV w dp ds) => walkJoin_any v y fr (1 + (nj : Int)) m 1 dp ds w h hd)
            unfold SEnd at CJ
            have OKJ := Lib.hid (join_ok (v := v) (a := fr) (b := 1 + (nj : Int)) (n := m) (k := 1) DK.out.range)
            obtain ⟨e1, n1, k1, d1, ho⟩ : ∃ s1 s2 s3 s4, wJoin v fr (1 + (nj : Int)) m 1 ds = (s1, s2, s3, s4) := ⟨_, _, _, _, rfl⟩
            rw [ho] at CJ OKJ
            simp only at CJ OKJ
            clear ho
            go_upto_region 17 with fail
            refine wp_region_lit ?_
            refine wpList_load_mid (by rfl) 29 _ (by rfl) q 0 (by rfl) (Array.toList (v.arr y)) _ (blk_range VK.out.blk) Try.underlying29 rfl Try.infoView ?_
            go_wp2_with fail
            refine (CJ.out wr VK.out.at_ DK.out).mono ?_
            rintro e w5 ⟨rfl, d5, f5⟩
            have V5 := Lib.hid (VK.out.drawn DK.out SEP.out f5 HPW.out)
            have LK5 := Lib.hid (LK.out.keep f5 (LK.out.not_draw DK.out))
            have D5 := Lib.hid d5
            clear f5 d5 VK LK DK CJ
            go_wp2_with (refine wpList_fresh (vs := #[.bool e1, .int .i64 n1, .bool k1]) hp1 hp2 Try.infoStep (by rfl) (by rw [← Array.all_toList]; rfl) (by rfl) (by rfl) ?_)
            intro w6 f6 b6 s6
            obtain ⟨g, hg⟩ : ∃ q, q = w5.heap.size := ⟨_, rfl⟩
            rw [← hg] at b6 s6 ⊢
            have hqg : q < g := by rw [hg]; exact V5.out.lt
            have hqg3 : q3 ≠ g := by obtain ⟨_, _, _, _, _, _, hb, -⟩ := LK5.out; have := (Array.getElem?_eq_some_iff.1 hb).1; omega
            have hWg : W.heap.size ≤ g := by omega
            have HGD := Lib.hid (show ∀ k, pblk dp k → k < g from fun k hk => by have := D5.out.lt k hk; omega)
            have APG := Lib.hid (show VwApart (fun k => k = g) v y from VwApart.new V5.out.at_ (fun k h => by omega))
            have V6 := Lib.hid (V5.out.keep f6)
            have LK6 := Lib.hid (LK5.out.keep f6 (fun h => h))
            have D6 := Lib.hid (D5.out.keep f6)
            have B6 := Lib.hid b6
            clear f6 b6 s6 hg V5 LK5 D5
            by_cases hk1 : kd = 1
            · have hki1 : ((kd : Int)) = 1 := by omega
              have HK1 := Lib.hid hki1
              clear OKJ hk1
              have CM := Lib.hid (fun w (h : VwAt w v y) (hd : DrawV w dp d1) => walkMix_any v y fr (1 + (nj : Int)) m dp d1 w h hd)
              unfold SEnd at CM
              have OKM := Lib.hid (mix_ok (v := v) (a := fr) (b := 1 + (nj : Int)) (n := m) D6.out.range)
              obtain ⟨e2, n2, k2, d2, ho⟩ : ∃ s1 s2 s3 s4, wMix v fr (1 + (nj : Int)) m d1 = (s1, s2, s3, s4) := ⟨_, _, _, _, rfl⟩
              rw [ho] at CM OKM
              simp only at CM OKM
              clear ho
              go_upto_region 19 with fail
              clear hki1
              rw [show Value.int .i64 1 = Value.int .i64 (kd : Int) by rw [HK1.out]]
              clear HK1
              refine wp_region_lit ?_
              refine wpList_load_mid (by rfl) 29 _ (by rfl) q 0 (by rfl) (Array.toList (v.arr y)) _ (blk_range V6.out.blk) Try.underlying29 rfl Try.infoView ?_
              go_wp2_with fail
              refine (CM.out w6 V6.out.at_ D6.out).mono ?_
              rintro e w7 ⟨rfl, d7, f7⟩
              have V7 := Lib.hid (V6.out.drawn D6.out SEP.out f7 HPW.out)
              have LK7 := Lib.hid (LK6.out.keep f7 (LK6.out.not_draw D6.out))
              have B7 := Lib.hid (blk_keep f7 B6.out (fun h => by have := HGD.out _ h; omega))
              have D7 := Lib.hid d7
              clear f7 d7 V6 LK6 D6 B6 CM
              go_wp2_with (refine wpList_storeW (vs := #[.bool e2, .int .i64 n2, .bool k2]) B7.out (by rfl) 36 _ _ (by rfl) (by rfl) (by rfl) rfl Try.infoStep (by rw [← Array.all_toList]; rfl) ?_)
              intro w8 f8 b8
              have V8 := Lib.hid (show VarV W q w8 v y from ⟨blk_keep f8 V7.out.blk (by omega), V7.out.at_.keepA f8 APG.out, V7.out.apart, fr_new V7.out.gr f8 hWg⟩)
              have LK8 := Lib.hid (LK7.out.keep f8 hqg3)
              have B8 := Lib.hid b8
              have D8 := Lib.hid (D7.out.keepF f8 HGD.out)
              clear f8 b8 V7 LK7 D7 B7 HGD APG SEP
              have y0 := (Bx.of_block B8.out) 0 _ rfl
              have y1 := (Bx.of_block B8.out) 1 _ rfl
              have y2 := (Bx.of_block B8.out) 2 _ rfl
              cases e2
              case true =>
                obtain ⟨ha, hb⟩ := OKM.out.1 rfl
                subst ha hb
                have hgt : ¬ ((st : Int) > (cn : Int)) := by omega
                go_wp2_with fail
                go_roundw
                case rel => exact ⟨kd + 1, d2, by go_num, by omega, V8.out.gr, LK8.out, D8.out⟩
                case measure => simp [intOf]; omega
              case false =>
                obtain ⟨hin, hn1, hn2, hm1⟩ := OKM.out.2 rfl
                obtain ⟨i, hi, hi6, hij⟩ := WV.out.next hin
                have HI := Lib.hid hi
                have hn3 : n2 ≠ 1 + (j : Int) := by omega
                have hb1 : (n2 == fr) = false := by simpa using hn1
                have hb2 : (n2 == 1 + (nj : Int)) = false := by simpa using hn2
                have hb3 : (n2 == 1 + (j : Int)) = false := by simpa using hn3
                have hm2 : ¬ ((m : Int) < 1) := by omega
                have z1 := (Bx.of_block V8.out.blk) 1 _ rfl
                have z2 := (Bx.of_block V8.out.blk) 2 _ rfl
                have CH := Lib.hid (setHas_any y.aa y.ac v.act v.am n2 w8 V8.out.at_.act WV.out.good.act)
                rw [show has v.act n2 = true from (has_iff _ _).2 hin] at CH
                clear hi hin hij
                go_wp2_with fail
                refine CH.out.mono ?_
                rintro e w9 ⟨rfl, f9⟩
                have V9 := Lib.hid (V8.out.keep f9)
                have LK9 := Lib.hid (LK8.out.keep f9 (fun h => h))
                have D9 := Lib.hid (D8.out.keep f9)
                have B9 := Lib.hid (blk_keep f9 B8.out (fun h => h))
                clear f9 V8 LK8 D8 B8 y0 y1 y2 z1 z2 CH
                have y0 := (Bx.of_block B9.out) 0 _ rfl
                have y1 := (Bx.of_block B9.out) 1 _ rfl
                have y2 := (Bx.of_block B9.out) 2 _ rfl
                go_upto_region 25 with fail
                go_quiet (fail)
                obtain ⟨wq, hwq⟩ : ∃ wq, wq = w9.drewN nq := ⟨_, rfl⟩
                rw [← hwq]
                have fq : Gr w9 wq := by rw [hwq]; exact (Fr.refl _ _).drewN nq
                have VQ := Lib.hid (V9.out.keep fq)
                have LKQ := Lib.hid (LK9.out.keep fq (fun h => h))
                have DQ := Lib.hid (D9.out.keep fq)
                clear hwq fq y0 y1 y2 V9 LK9 D9 B9
                go_wp2_with fail
                go_roundw
                case rel => exact ⟨i, m - 1, st + 1, 1 + (j : Int), d2, by rw [HI.out], rfl, by go_num, by go_num, hi6, by omega, VQ.out.gr, LKQ.out, DQ.out⟩
                case measure => simp [intOf]; omega
            · have hk0 : ¬ ((kd : Int) = 1) := by omega
              clear SEP HGD APG
              have y0 := (Bx.of_block B6.out) 0 _ rfl
              have y1 := (Bx.of_block B6.out) 1 _ rfl
              have y2 := (Bx.of_block B6.out) 2 _ rfl
              cases e1
              case true =>
                obtain ⟨ha, hb⟩ := OKJ.out.1 rfl
                subst ha hb
                have hgt : ¬ ((st : Int) > (cn : Int)) := by omega
                go_wp2_with fail
                go_roundw
                case rel => exact ⟨kd + 1, d1, by go_num, by omega, V6.out.gr, LK6.out, D6.out⟩
                case measure => simp [intOf]; omega
              case false =>
                obtain ⟨hin, hn1, hn2, hm1⟩ := OKJ.out.2 rfl
                obtain ⟨i, hi, hi6, hij⟩ := WV.out.next hin
                have HI := Lib.hid hi
                have hn3 : n1 ≠ 1 + (j : Int) := by omega
                have hb1 : (n1 == fr) = false := by simpa using hn1
                have hb2 : (n1 == 1 + (nj : Int)) = false := by simpa using hn2
                have hb3 : (n1 == 1 + (j : Int)) = false := by simpa using hn3
                have hm2 : ¬ ((m : Int) < 1) := by omega
                have z1 := (Bx.of_block V6.out.blk) 1 _ rfl
                have z2 := (Bx.of_block V6.out.blk) 2 _ rfl
                have CH := Lib.hid (setHas_any y.aa y.ac v.act v.am n1 w6 V6.out.at_.act WV.out.good.act)
                rw [show has v.act n1 = true from (has_iff _ _).2 hin] at CH
                clear hi hin hij
                go_wp2_with fail
                refine CH.out.mono ?_
                rintro e w9 ⟨rfl, f9⟩
                have V9 := Lib.hid (V6.out.keep f9)
                have LK9 := Lib.hid (LK6.out.keep f9 (fun h => h))
                have D9 := Lib.hid (D6.out.keep f9)
                have B9 := Lib.hid (blk_keep f9 B6.out (fun h => h))
                clear f9 V6 LK6 D6 B6 y0 y1 y2 z1 z2 CH
                have y0 := (Bx.of_block B9.out) 0 _ rfl
                have y1 := (Bx.of_block B9.out) 1 _ rfl
                have y2 := (Bx.of_block B9.out) 2 _ rfl
                go_upto_region 25 with fail
                go_quiet (fail)
                obtain ⟨wq, hwq⟩ : ∃ wq, wq = w9.drewN nq := ⟨_, rfl⟩
                rw [← hwq]
                have fq : Gr w9 wq := by rw [hwq]; exact (Fr.refl _ _).drewN nq
                have VQ := Lib.hid (V9.out.keep fq)
                have LKQ := Lib.hid (LK9.out.keep fq (fun h => h))
                have DQ := Lib.hid (D9.out.keep fq)
                clear hwq fq y0 y1 y2 V9 LK9 D9 B9
                go_wp2_with fail
                go_roundw
                case rel => exact ⟨i, m - 1, st + 1, 1 + (j : Int), d1, by rw [HI.out], rfl, by go_num, by go_num, hi6, by omega, VQ.out.gr, LKQ.out, DQ.out⟩
                case measure => simp [intOf]; omega

    · have hk2 : kd = 2 := by omega
      subst hk2
      clear hlt hk hj0 hx0 hx1 y0 LK DK
      go_wp2_with fail
      go_ret
      exact ⟨rfl, FK.out⟩
end Go.Proofs.Ytdpnkikaciigoaa
