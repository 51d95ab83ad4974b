/-
  The walk of ViewEvicts.
-/
import Derived.Test.YtdpnkikaciigoaaVETail
namespace Go.Proofs.Ytdpnkikaciigoaa
open Go.RowKit Go.Proofs

set_option maxHeartbeats 16000000 in
set_option maxRecDepth 100000 in
theorem viewEvicts_walk (a0 : Option Addr) (c0 : Nat) (ln : List Int) (s0 s1 : Int) (a2 : Option Addr) (c2 : Nat) (lc : List Int) (W : World) (hn : SlA W a0 ln.length c0 (ln.map (Value.int .u8))) (hr : ∀ x ∈ ln, 0 ≤ x ∧ x ≤ 255) (hs0 : 0 ≤ s0 ∧ s0 ≤ 255) (hs1 : 0 ≤ s1 ∧ s1 ≤ 255)
    (hc : SlA W a2 lc.length c2 (lc.map (Value.int .u32))) (hcr : ∀ x ∈ lc, 0 ≤ x ∧ x < 4294967296) (hcb : lc.length * 4 ≤ 140737488355328) :
    Calls Try.prog 6 #[.slice a0 ln.length c0, .agg #[.int .u8 s0, .int .u8 s1], .slice a2 lc.length c2] W fun e w' => e = .returned (.bool true) ∧ Gr W w' := by
  obtain ⟨iz, hz1, hz2, hzs⟩ := info_pair Try.zeroView
  obtain ⟨w0, hw0⟩ : ∃ w0, w0 = W.alloc (.cells #[.int .u8 s0, .int .u8 s1] 69) := ⟨_, rfl⟩
  have f0 : Gr W w0 := by rw [hw0]; exact (Fr.refl _ _).alloc _
  have X0 := Lib.hid (show w0.heap[W.heap.size]? = some (.cells #[.int .u8 s0, .int .u8 s1] 69 (0, 0)) by rw [hw0, heap_alloc_if, if_pos rfl])
  have F0 := Lib.hid f0
  have HW0 := Lib.hid hw0
  have HN := Lib.hid hn
  have HR := Lib.hid hr
  have HC := Lib.hid hc
  have HCR := Lib.hid hcr
  have S0 := Lib.hid (speaks09_any w0)
  have e1 := hn.le
  have e2 := hn.max
  have e3 := hc.le
  have e4 := hc.max
  obtain ⟨n1, hn1⟩ : ∃ n, n = min ln.length 40 := ⟨_, rfl⟩
  have HN1 := Lib.hid hn1
  obtain ⟨aa, haa, ha0, ha1⟩ : ∃ z, s0.tmod 20 = z ∧ 0 ≤ z ∧ z < 20 := ⟨_, rfl, by rw [tmod20 _ hs0.1]; omega, by rw [tmod20 _ hs0.1]; omega⟩
  obtain ⟨pp, hpp, hp0, hp1⟩ : ∃ z, s1.tmod 20 = z ∧ 0 ≤ z ∧ z < 20 := ⟨_, rfl, by rw [tmod20 _ hs1.1]; omega, by rw [tmod20 _ hs1.1]; omega⟩
  clear hw0 f0 hn hr hc hcr hn1
  go_enter Try.func6, Try.ntmps6
  go_upto_region 1 with fail
  rw [← HW0.out]
  clear HW0
  go_wp2_with fail
  refine S0.out.mono ?_
  rintro e w1 ⟨rfl, f1⟩
  have F1 := Lib.hid (Gr.trans F0.out f1)
  have X1 := Lib.hid (blk_keep f1 X0.out (fun h => h))
  have y0 := (Bx.of_block X1.out) 0 _ rfl
  have y1 := (Bx.of_block X1.out) 1 _ rfl
  clear f1 X0 F0 S0
  go_wp2_with fail
  go_quiet (fail)
  obtain ⟨wq, hwq⟩ : ∃ wq, wq = w1.drewN nq := ⟨_, rfl⟩
  rw [← hwq]
  have FQ := Lib.hid (show Gr W wq by rw [hwq]; exact F1.out.drewN nq)
  have CN := Lib.hid (viewNew_any 300 (1 + aa) pp wq)
  rw [vwNew_id 300 (1 + aa) pp (by omega) (by omega)] at CN
  clear hwq y0 y1 X1 F1 haa hpp hs0 hs1
  go_wp2_with fail
  refine CN.out.mono ?_
  rintro e w2 ⟨rfl, f2⟩
  have F2 := Lib.hid (Gr.trans FQ.out f2)
  clear f2 FQ CN
  go_wp2_with (refine wpList_fresh (vs := (⟨300, [], 1 + aa, [], pp⟩ : Vw).arr vwNone) hz1 hz2 Try.infoView (by rfl) (by rw [← Array.all_toList]; rfl) (by rfl) (by rfl) ?_)
  intro w3 f3 b3 l3
  obtain ⟨q, hq⟩ : ∃ q, q = w2.heap.size := ⟨_, rfl⟩
  rw [← hq] at b3 l3 ⊢
  have hWq : W.heap.size ≤ q := by rw [hq]; exact F2.out.size
  have hg0 : Vw.Good ⟨300, [], 1 + aa, [], pp⟩ := ⟨Good.nil (by simp only; omega) (by simp only; omega), Good.nil (by simp only; omega) (by simp only; omega)⟩
  have EV0 := Lib.hid (show EvA ⟨300, [], 1 + aa, [], pp⟩ (1 + aa) pp from ⟨hg0, ⟨by simp, by simp, by simp⟩, rfl, rfl, rfl, rfl⟩)
  have V3 : Hid (VarV W q w3 ⟨300, [], 1 + aa, [], pp⟩ vwNone) := Lib.hid ⟨b3, ⟨SlA.nil _, SlA.nil _, hg0⟩, VwApart.none _ _, Gr.trans F2.out f3⟩
  have CD := Lib.hid (new_any a2 c2 lc w3 (HC.out.keep V3.out.gr (fun _ _ h => h)) hcb HCR.out)
  have hW3 := V3.out.gr.size
  clear f3 b3 l3 hq F2 hg0 HC HCR hcb
  go_upto_region 5 with fail
  go_wp2_with fail
  refine CD.out.mono ?_
  rintro e w4 ⟨d, rfl, hd3, hd4, bl4⟩
  have V4 := Lib.hid (V3.out.keep (Gr.of_below bl4))
  obtain ⟨dp, hdp⟩ : ∃ dp, dp = Value.pointer (some ⟨d, 0, none⟩) := ⟨_, rfl⟩
  have D4 := Lib.hid (show DrawV w4 dp lc from .inr ⟨d, hdp, hd4⟩)
  have HPW := Lib.hid (show ∀ k, pblk dp k → W.heap.size ≤ k from fun k hk => by rw [hdp] at hk; unfold pblk at hk; cases hk; omega)
  rw [← hdp]
  clear hd3 hd4 bl4 V3 CD hdp hW3
  go_upto_region 6 with fail
  go_wp2_with fail
  go_loopw [11] (fun iv wr => ∃ (k : Nat) (v : Vw) (y : VwP), iv = .int .i64 k ∧ k ≤ n1 ∧ Hid (EvA v (1 + aa) pp) ∧ VarV W q wr v y ∧ DrawV wr dp lc ∧ VwSep dp y) (fun iv _ => n1 - (intOf iv).toNat)
  case atStart => exact ⟨0, _, vwNone, rfl, Nat.zero_le _, EV0, V4.out, D4.out, vwNone_sep _⟩
  case round =>
    clear V4 D4 EV0
    obtain ⟨k, v, y, rfl, hk, EV, hv, hd, hsep⟩ := hrel
    have VK := Lib.hid hv
    have DK := Lib.hid hd
    have SEP := Lib.hid hsep
    have hqw := hv.lt
    have l1 := hv.at_.act.le
    have l2 := hv.at_.act.max
    have l3 := hv.at_.pas.le
    have l4 := hv.at_.pas.max
    clear hv hd hsep
    go_upto_region 7 with fail
    go_cut [47] from 40 to 47 (fun c wx => c = .bool (decide (k < n1)) ∧ wr = wx)
    case first =>
      by_cases h1 : (k : Int) < (ln.length : Int)
      · by_cases h2 : (k : Int) < 40
        · have hd := Lib.hid (show decide (k < n1) = true by have := HN1.out; simp; omega)
          go_wp2_with fail
          go_meet
          exact ⟨by rw [hd.out], rfl⟩
        · have hd := Lib.hid (show decide (k < n1) = false by have := HN1.out; simp; omega)
          go_wp2_with fail
          go_meet
          exact ⟨by rw [hd.out], rfl⟩
      · have hd := Lib.hid (show decide (k < n1) = false by have := HN1.out; simp; omega)
        go_wp2_with fail
        go_meet
        exact ⟨by rw [hd.out], rfl⟩
    case rest =>
      obtain ⟨rfl, rfl⟩ := hcut
      by_cases hlt : k < n1
      · rw [decide_eq_true hlt]
        have hkl : k < ln.length := by have := HN1.out; omega
        obtain ⟨b, o, rfl, hcc⟩ := (HN.out.keep VK.out.gr (fun _ _ h => h)).at1 k hkl
        have hxr := HR.out ln[k] (List.getElem_mem hkl)
        generalize ln[k] = xv at hcc hxr
        obtain ⟨hx0, hx1⟩ := hxr
        have HJ := Lib.hid (EV.out.join (x := 1 + xv) (by omega))
        have CJ := Lib.hid (fun w (f : Gr wr w) => viewJoin_any v y (1 + xv) w (VK.out.at_.gr f))
        unfold VEnd0 at CJ
        obtain ⟨v', hv'⟩ : ∃ v', v' = vJoin v (1 + xv) := ⟨_, rfl⟩
        obtain ⟨ok, hok⟩ : ∃ ok, ok = vJoinOk v (1 + xv) := ⟨_, rfl⟩
        rw [← hv', ← hok] at HJ CJ
        clear hv' hok hk
        haveI : Nonempty (WC (Gr wr)) := ⟨⟨wr, Fr.refl _ _⟩⟩
        have z0 : ∀ z : WC (Gr wr), z.val.cell? ⟨q, 0, none⟩ = some (.int .i64 v.self) := fun z => z.ok.cell ((Bx.of_block VK.out.blk) 0 _ rfl) (fun h => h)
        have z1 : ∀ z : WC (Gr wr), z.val.cell? ⟨q, 1, none⟩ = some (.slice y.aa v.act.length y.ac) := fun z => z.ok.cell ((Bx.of_block VK.out.blk) 1 _ rfl) (fun h => h)
        have z2 : ∀ z : WC (Gr wr), z.val.cell? ⟨q, 2, none⟩ = some (.int .i64 v.am) := fun z => z.ok.cell ((Bx.of_block VK.out.blk) 2 _ rfl) (fun h => h)
        have z3 : ∀ z : WC (Gr wr), z.val.cell? ⟨q, 3, none⟩ = some (.slice y.pa v.pas.length y.pc) := fun z => z.ok.cell ((Bx.of_block VK.out.blk) 3 _ rfl) (fun h => h)
        have z4 : ∀ z : WC (Gr wr), z.val.cell? ⟨q, 4, none⟩ = some (.int .i64 v.pm) := fun z => z.ok.cell ((Bx.of_block VK.out.blk) 4 _ rfl) (fun h => h)
        have zr : ∀ z : WC (Gr wr), z.val.cell? ⟨b, o + k, none⟩ = some (.int .u8 xv) := fun z => z.ok.cell hcc (fun h => h)
        have hkz : (k : Int) < (ln.length : Int) := by omega
        go_upto_region 9 with fail
        go_cut [12, 13] from 50 to 60 (fun r1 r2 wx => ∃ (g : Nat) (y' : VwP), r1 = .pointer (some ⟨g, 0, none⟩) ∧ r2 = .bool ok ∧ wx.heap[g]? = some (.cells (v'.arr y') 29 (0, 0)) ∧ VwAt wx v' y' ∧ Gr wr wx ∧ VwFrom wr v y v' y' ∧ q < g)
        case first =>
          refine wp_region_plan [7, 11, 12] (Plan.seq [0, 1, 2, 3, 4, 5, 6] (.fork 7 11 (Plan.seq [11, 8, 9, 10, 12, 13] .done) (Plan.seq [7, 8, 9, 10, 12, 13] .done))) (fun w' => ∃ z : WC (Gr wr), w' = z.val) (by kernel_rfl) (by kernel_rfl) (fun c a w d v h => by cases d <;> exact h) (fun c a w d v h => by cases d <;> exact h) ⟨⟨wr.drew, (Fr.refl _ _).drew⟩, rfl⟩ ?_
          simp only [Plan.seq, List.foldr]
          refine wpV_q (by simp only [List.getElem?_toArray, List.getElem?_cons_zero] <;> rfl) (by rfl) (by rfl) ?_
          go_big_quiet_step (fail)
          refine wpQuiet_nil ?_
          repeat (refine wpV_q (by simp only [List.getElem?_toArray, List.getElem?_cons_succ, List.getElem?_cons_zero] <;> rfl) (by rfl) (by rfl) ?_; go_big_quiet_step (fail); refine wpQuiet_nil ?_)
          refine wpV_fork (by simp only [List.getElem?_toArray, List.getElem?_cons_succ, List.getElem?_cons_zero] <;> rfl) (by simp only [List.getElem?_toArray, List.getElem?_cons_succ, List.getElem?_cons_zero] <;> rfl) ?_ ?_
          · go_wp2_with fail
            refine (CJ.out _ ((Fr.refl _ _).drew)).mono ?_
            rintro e w5 ⟨y', rfl, h5, f5', k5⟩
            have f5 : Gr wr w5 := Gr.trans ((Fr.refl _ _).drew) f5'
            go_wp2_with fail
            refine ⟨⟨⟨w5, f5⟩, rfl⟩, ?_⟩
            refine wpV_e (by simp only [List.getElem?_toArray, List.getElem?_cons_succ, List.getElem?_cons_zero] <;> rfl) (by rfl) ?_
            go_wp2_with fail
            obtain ⟨w6, hw6⟩ : ∃ w6, w6 = w5.alloc (.cells viewZ 29) := ⟨_, rfl⟩
            have f6 : Gr w5 w6 := by rw [hw6]; exact (Fr.refl _ _).alloc _
            have b6 : w6.heap[w5.heap.size]? = some (.cells viewZ 29 (0, 0)) := by rw [hw6, heap_alloc_if, if_pos rfl]
            rw [← hw6]
            refine ⟨⟨⟨w6, Gr.trans f5 f6⟩, rfl⟩, ?_⟩
            clear hw6
            repeat (refine wpV_q (by simp only [List.getElem?_toArray, List.getElem?_cons_succ, List.getElem?_cons_zero] <;> rfl) (by rfl) (by rfl) ?_; go_big_quiet_step (fail); refine wpQuiet_nil ?_)
            refine wpV_e (by simp only [List.getElem?_toArray, List.getElem?_cons_succ, List.getElem?_cons_zero] <;> rfl) (by rfl) ?_
            go_wp2_with (refine wpList_storeW (vs := v'.arr y') b6 (by rfl) 29 _ _ (by rfl) (by rfl) (by rfl) rfl Try.infoView (by rw [← Array.all_toList]; rfl) ?_)
            intro w7 f7 b7
            refine wpList_nil ?_
            have hsz5 := f5.size
            have f7' : Gr wr w7 := fr_new (Gr.trans f5 f6) f7 hsz5
            refine ⟨⟨⟨w7, f7'⟩, rfl⟩, ?_⟩
            have h7 : VwAt w7 v' y' := (h5.gr f6).keepA f7 (VwApart.new h5 (fun k h => by omega))
            have H7 := Lib.hid (And.intro h7 (And.intro f7' (And.intro (k5.mono (a := wr) (Nat.le_refl _)) (And.intro b7 (show q < w5.heap.size by omega)))))
            clear f7 f6 b6 b7 h5 f5' k5 f5 f7' h7 hsz5 CJ
            repeat (refine wpV_q (by simp only [List.getElem?_toArray, List.getElem?_cons_succ, List.getElem?_cons_zero] <;> rfl) (by rfl) (by rfl) ?_; go_big_quiet_step (fail); refine wpQuiet_nil ?_)
            refine wpV_done ?_
            clear z0 z1 z2 z3 z4 zr this
            go_wp2_with fail
            go_meet
            exact ⟨w5.heap.size, y', rfl, rfl, H7.out.2.2.2.1, H7.out.1, H7.out.2.1, H7.out.2.2.1, H7.out.2.2.2.2⟩
          · go_wp2_with fail
            obtain ⟨w5, hw5⟩ : ∃ w5, w5 = (wr.alloc (.cells viewZ 29)).drew := ⟨_, rfl⟩
            have f5 : Gr wr w5 := by rw [hw5]; exact ((Fr.refl _ _).alloc _).drew
            have b5 : w5.heap[wr.heap.size]? = some (.cells viewZ 29 (0, 0)) := by rw [hw5]; show (wr.alloc (.cells viewZ 29)).heap[wr.heap.size]? = _; rw [heap_alloc_if, if_pos rfl]
            have hg5 : wr.heap.size < w5.heap.size := (Array.getElem?_eq_some_iff.1 b5).1
            rw [← hw5]
            refine ⟨⟨⟨w5, f5⟩, rfl⟩, ?_⟩
            clear hw5
            refine wpV_e (by simp only [List.getElem?_toArray, List.getElem?_cons_succ, List.getElem?_cons_zero] <;> rfl) (by rfl) ?_
            go_wp2_with fail
            refine (CJ.out w5 f5).mono ?_
            rintro e w6 ⟨y', rfl, h6, f6, k6⟩
            have b6 := blk_keep f6 b5 (fun h => h)
            go_wp2_with fail
            refine ⟨⟨⟨w6, Gr.trans f5 f6⟩, rfl⟩, ?_⟩
            repeat (refine wpV_q (by simp only [List.getElem?_toArray, List.getElem?_cons_succ, List.getElem?_cons_zero] <;> rfl) (by rfl) (by rfl) ?_; go_big_quiet_step (fail); refine wpQuiet_nil ?_)
            refine wpV_e (by simp only [List.getElem?_toArray, List.getElem?_cons_succ, List.getElem?_cons_zero] <;> rfl) (by rfl) ?_
            go_wp2_with (refine wpList_storeW (vs := v'.arr y') b6 (by rfl) 29 _ _ (by rfl) (by rfl) (by rfl) rfl Try.infoView (by rw [← Array.all_toList]; rfl) ?_)
            intro w7 f7 b7
            refine wpList_nil ?_
            have f7' : Gr wr w7 := fr_new (Gr.trans f5 f6) f7 (Nat.le_refl _)
            refine ⟨⟨⟨w7, f7'⟩, rfl⟩, ?_⟩
            have ap : VwApart (fun k => k = wr.heap.size) v' y' := (VwApart.new VK.out.at_ (fun k h => by omega)).next k6 (fun k h => by omega)
            have h7 : VwAt w7 v' y' := h6.keepA f7 ap
            have H7 := Lib.hid (And.intro h7 (And.intro f7' (And.intro (k6.mono (a := wr) (by omega)) (And.intro b7 hqw))))
            clear f7 f6 b6 b7 b5 h6 k6 f5 f7' h7 ap hg5 CJ
            repeat (refine wpV_q (by simp only [List.getElem?_toArray, List.getElem?_cons_succ, List.getElem?_cons_zero] <;> rfl) (by rfl) (by rfl) ?_; go_big_quiet_step (fail); refine wpQuiet_nil ?_)
            refine wpV_done ?_
            clear z0 z1 z2 z3 z4 zr this
            go_wp2_with fail
            go_meet
            exact ⟨wr.heap.size, y', rfl, rfl, H7.out.2.2.2.1, H7.out.1, H7.out.2.1, H7.out.2.2.1, H7.out.2.2.2.2⟩
        case rest =>
          obtain ⟨g, y', rfl, rfl, bg, hgv, fg, kg, hqg⟩ := hcut
          have VX := Lib.hid (VK.out.keep fg)
          have DX := Lib.hid (DK.out.keep fg)
          have BG := Lib.hid bg
          have HGV := Lib.hid hgv
          have AP := Lib.hid (VK.out.apart.next kg (fun k h => by omega))
          have SEP2 := Lib.hid (SEP.out.of_from DK.out kg)
          have EV2 := Lib.hid HJ.out.1
          have l5 := hgv.act.le
          have l6 := hgv.act.max
          have l7 := hgv.pas.le
          have l8 := hgv.pas.max
          clear z0 z1 z2 z3 z4 zr this bg hgv fg kg VK DK SEP CJ EV hcc
          cases ok
          case true =>
            clear HJ
            go_upto_region 12 with fail
            refine wp_region_lit ?_
            refine wpList_load_mid (by rfl) 29 _ (by rfl) g 0 (by rfl) (Array.toList (v'.arr y')) _ (blk_range BG.out) Try.underlying29 rfl Try.infoView ?_
            go_wp2_with (refine wpList_storeW (vs := v'.arr y') VX.out.blk (by rfl) 29 _ _ (by rfl) (by rfl) (by rfl) rfl Try.infoView (by rw [← Array.all_toList]; rfl) ?_)
            intro w8 f8 b8
            have V8 : VarV W q w8 v' y' := ⟨b8, HGV.out.keepA f8 AP.out, AP.out, fr_new VX.out.gr f8 hWq⟩
            have D8 := (DX.out.keepV f8 VX.out.blk).1
            go_wp2_with fail
            go_roundw
            case rel => exact ⟨k + 1, v', y', by go_num, hlt, EV2, V8, D8, SEP2.out⟩
            case measure => simp [intOf]; omega
          case false =>
            have hge := HJ.out.2 rfl
            have y1 := (Bx.of_block VX.out.blk) 1 _ rfl
            have y2 := (Bx.of_block VX.out.blk) 2 _ rfl
            have CL := Lib.hid (fun w => setLen_any y.aa v.act.length y.ac v.am w)
            clear HJ
            go_wp2_with fail
            refine (CL.out _).mono ?_
            rintro e w6 ⟨rfl, f6⟩
            replace VX := Lib.hid (VX.out.keep f6)
            replace DX := Lib.hid (DX.out.keep f6)
            replace BG := Lib.hid (blk_keep f6 BG.out (fun h => h))
            replace HGV := Lib.hid (HGV.out.gr f6)
            clear f6 y1 y2 CL
            go_upto_region 12 with fail
            refine wp_region_lit ?_
            refine wpList_load_mid (by rfl) 29 _ (by rfl) g 0 (by rfl) (Array.toList (v'.arr y')) _ (blk_range BG.out) Try.underlying29 rfl Try.infoView ?_
            go_wp2_with (refine wpList_storeW (vs := v'.arr y') VX.out.blk (by rfl) 29 _ _ (by rfl) (by rfl) (by rfl) rfl Try.infoView (by rw [← Array.all_toList]; rfl) ?_)
            intro w8 f8 b8
            have V8 : VarV W q w8 v' y' := ⟨b8, HGV.out.keepA f8 AP.out, AP.out, fr_new VX.out.gr f8 hWq⟩
            have D8 := (DX.out.keepV f8 VX.out.blk).1
            go_wp2_with fail
            go_roundw
            case rel => exact ⟨k + 1, v', y', by go_num, hlt, EV2, V8, D8, SEP2.out⟩
            case measure => simp [intOf]; omega
      · rw [decide_eq_false hlt]
        clear hlt hk HN1 HN HR
        have EB := Lib.hid (show EvB v (1 + aa) pp v.act.length 0 from ⟨EV.out.good, EV.out.sane, EV.out.am, EV.out.pm, by omega, by rw [EV.out.pas]; simp; omega⟩)
        clear EV l1 l2 l3 l4 hz1 hz2 hzs e1 e2 e3 e4
        go_upto_region 13 with fail
        refine wp_tail ?_ (by assumption)
        exact ve_tail hWq HPW VK DK SEP EB
end Go.Proofs.Ytdpnkikaciigoaa
