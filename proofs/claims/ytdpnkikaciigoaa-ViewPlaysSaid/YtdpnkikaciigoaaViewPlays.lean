/-
  The walk of ViewPlays (printed by gen_vplays.py).
-/
import Derived.Test.YtdpnkikaciigoaaVPLaw
import Derived.Test.YtdpnkikaciigoaaRegionW
namespace Go.Proofs.Ytdpnkikaciigoaa
open Go.RowKit Go.Proofs

structure Act3 where
  what : Int
  n : Int
  keep : Bool
def Act3.cells (x : Act3) : List Value := [.int .i64 x.what, .int .i64 x.n, .bool x.keep]
/-- the kind's remainder -/
theorem rem6 (x : Int) : ∃ r1 r2 : Int, x.tmod 6 = r1 ∧ (r1 + 6).tmod 6 = r2 ∧ -6 < r1 ∧ r1 < 6 ∧ 0 ≤ r2 ∧ r2 < 6 := by
  refine ⟨_, _, rfl, rfl, ?_, ?_, ?_, ?_⟩
  · have h1 := Int.tmod_lt_of_pos (-x) (show (0 : Int) < 6 by omega)
    rw [Int.neg_tmod] at h1
    omega
  · exact Int.tmod_lt_of_pos x (by omega)
  · refine Int.tmod_nonneg _ ?_
    have h1 := Int.tmod_lt_of_pos (-x) (show (0 : Int) < 6 by omega)
    rw [Int.neg_tmod] at h1
    omega
  · exact Int.tmod_lt_of_pos _ (by omega)
theorem like_len {v u : Vw} (h : Like v u) (g : v.Good) : u.act.length ≤ 100 ∧ u.pas.length ≤ 100 ∧ 0 ≤ u.pm := by
  have := h.act.length_eq
  have := h.pas.length_eq
  have := g.act.len
  have := g.pas.len
  have := g.pas.least
  have := h.pm
  omega
def vpEnd (W : World) (q m : Nat) (dp : Value) : Value → Value → Value → Value → World → Prop := fun a b x y wx =>
  ∃ (ab : Bool) (xi : Int) (v' u' : Vw) (ds' : List Int), a = .bool ab ∧ b = .bool ab ∧ x = .int .i64 xi ∧ y = .int .i64 xi ∧ VpSt W q m dp wx v' u' ds'
theorem Try.info_Act3 : (Try.prog.info? 53).map (·.size) = some 3 := by kernel_rfl
set_option maxHeartbeats 16000000 in
set_option maxRecDepth 100000 in
theorem viewPlays_walk (s0 s1 : Int) (a1 : Option Addr) (c1 : Nat) (L : List Act3) (a2 : Option Addr) (c2 : Nat) (lc : List Int) (W : World) (h1 : SlA W a1 L.length c1 (L.flatMap Act3.cells))
    (hc : SlA W a2 lc.length c2 (lc.map (Value.int .u32))) (hcr : ∀ x ∈ lc, 0 ≤ x ∧ x < 4294967296) :
    Calls Try.prog 5 #[.agg #[.int .i64 s0, .int .i64 s1], .slice a1 L.length c1, .slice a2 lc.length c2] W fun e w' => e = .returned (.bool true) ∧ Gr W w' := by
  obtain ⟨iz, hz1, hz2, hzs⟩ := info_pair Try.zeroView
  obtain ⟨ir, hr1, hr2, hrs⟩ := info_pair Try.zeroRefView
  obtain ⟨w0, hw0⟩ : ∃ w0, w0 = W.alloc (.cells #[.int .i64 s0, .int .i64 s1] 47) := ⟨_, rfl⟩
  have f0 : Gr W w0 := by rw [hw0]; exact (Fr.refl _ _).alloc _
  have X0 := Lib.hid (show w0.heap[W.heap.size]? = some (.cells #[.int .i64 s0, .int .i64 s1] 47 (0, 0)) by rw [hw0, heap_alloc_if, if_pos rfl])
  have F0 := Lib.hid f0
  have HW0 := Lib.hid hw0
  have HL := Lib.hid h1
  have HCR := Lib.hid hcr
  have S0 := Lib.hid (speaks09_any w0)
  have e1 := h1.le
  have e2 := h1.max
  have e3 := hc.le
  have e4 := hc.max
  obtain ⟨l', hl1, hl2, hl3, hl4, hl5⟩ := cut_list (Value.int .u32) W a2 c2 lc 40 40 rfl hc
  have hb : l'.length * 4 ≤ 140737488355328 := by omega
  have HC := Lib.hid hl3
  have HCR2 := Lib.hid (show ∀ x ∈ l', 0 ≤ x ∧ x < 4294967296 from fun x hx => hcr x (by rw [hl2] at hx; exact List.mem_of_mem_take hx))
  have HDA := Lib.hid (show l' = [] ∨ ∀ p, a2 = some p → p.block < W.heap.size by
    by_cases hl : l' = []
    · exact .inl hl
    · obtain ⟨b, o, e, hlt⟩ := hl3.lt (by simpa using hl)
      exact .inr (fun p hp => by rw [e] at hp; cases hp; exact hlt))
  obtain ⟨n1, hn1⟩ : ∃ n, n = min L.length 70 := ⟨_, rfl⟩
  have HN1 := Lib.hid hn1
  have HIF := Lib.hid hl4
  have HIF2 := Lib.hid hl5
  clear hw0 f0 h1 hc hcr hn1 hl2 hl3
  go_enter Try.func5, Try.ntmps5
  go_upto_region 1 with fail
  rw [← HW0.out]
  clear HW0
  go_wp2_with fail
  refine S0.out.mono ?_
  rintro e w1 ⟨rfl, f1⟩
  have F1 := Lib.hid (Gr.trans F0.out f1)
  have X1 := Lib.hid (blk_keep f1 X0.out (fun h => h))
  have y0 := (Bx.of_block X1.out) 0 _ rfl
  have y1 := (Bx.of_block X1.out) 1 _ rfl
  have CN := Lib.hid (viewNew_any 3 s0 s1 w1)
  clear f1 X0 F0 S0
  go_wp2_with fail
  refine CN.out.mono ?_
  rintro e w2 ⟨rfl, f2⟩
  have F2 := Lib.hid (Gr.trans F1.out f2)
  have X2 := Lib.hid (blk_keep f2 X1.out (fun h => h))
  clear f2 F1 X1 CN y0 y1
  go_wp2_with (refine wpList_fresh (vs := (vwNew 3 s0 s1).arr vwNone) hz1 hz2 Try.infoView (by rfl) (by rw [← Array.all_toList]; rfl) (by rfl) (by rfl) ?_)
  intro w3 f3 b3 l3
  obtain ⟨q, hq⟩ : ∃ q, q = w2.heap.size := ⟨_, rfl⟩
  rw [← hq] at b3 l3 ⊢
  have hWq : W.heap.size ≤ q := by rw [hq]; exact F2.out.size
  obtain ⟨va, hva⟩ : ∃ va, va = vwNew 3 s0 s1 := ⟨_, rfl⟩
  have V3 : Hid (VarV W q w3 va vwNone) := Lib.hid ⟨by rw [hva]; exact b3, by rw [hva]; exact vwNone_at w3 3 s0 s1, VwApart.none _ _, Gr.trans F2.out f3⟩
  have HVA := Lib.hid hva
  have X3 := Lib.hid (blk_keep f3 X2.out (fun h => h))
  clear f3 b3 l3 hq F2 hva X2
  go_upto_region 5 with fail
  have CD := Lib.hid (new_any a2 c2 l' w3 (HC.out.keep V3.out.gr (fun _ _ h => h)) hb HCR2.out)
  have hW3 := V3.out.gr.size
  have y0 := (Bx.of_block X3.out) 0 _ rfl
  have y1 := (Bx.of_block X3.out) 1 _ rfl
  clear HIF HIF2 hl4 hl5
  go_wp2_with fail
  refine CD.out.mono ?_
  rintro e w4 ⟨d, rfl, hd3, hd4, bl4⟩
  have V4 := Lib.hid (V3.out.keep (Gr.of_below bl4))
  obtain ⟨dp, hdp⟩ : ∃ dp, dp = Value.pointer (some ⟨d, 0, none⟩) := ⟨_, rfl⟩
  have D4 := Lib.hid (show DrawV w4 dp l' from .inr ⟨d, hdp, hd4⟩)
  have HDD := Lib.hid (show ∃ d, dp = Value.pointer (some ⟨d, 0, none⟩) from ⟨d, hdp⟩)
  have HPW := Lib.hid (show ∀ k, pblk dp k → W.heap.size ≤ k from fun k hk => by rw [hdp] at hk; unfold pblk at hk; cases hk; omega)
  have HPQ := Lib.hid (show ¬ pblk dp q from fun hk => by rw [hdp] at hk; unfold pblk at hk; cases hk; have := V3.out.lt; omega)
  replace y0 := (Gr.of_below bl4).cell y0 (fun h => h)
  replace y1 := (Gr.of_below bl4).cell y1 (fun h => h)
  rw [← hdp]
  clear hd3 hd4 bl4 V3 CD hdp hW3 X3
  go_upto_region 6 with fail
  refine wp_region_lit ?_
  iterate 27 go_step
  refine wpList_bldW (by rfl) (by rfl) (by rfl) (by rfl) ?_
  refine wpList_fresh (vs := rwArr ⟨3, [], min (max s0 0) 64, [], min (max s1 0) 64⟩ vwNone l' a2 c2) hr1 hr2 Try.infoRefView (by rfl) (by rw [← Array.all_toList]; rfl) (by rfl) (by rfl) ?_
  intro w5 f5 b5 l5
  obtain ⟨m, hm⟩ : ∃ m, m = w4.heap.size := ⟨_, rfl⟩
  rw [← hm] at b5 l5 ⊢
  have HCc : Hid (VpC W q m dp) := Lib.hid ⟨hWq, by rw [hm]; exact V4.out.gr.size, HPW.out, by have := V4.out.lt; omega, HPQ.out, fun hk => by have := D4.out.lt _ hk; omega, HDD.out⟩
  have SL := Lib.hid (show ∀ k, vpS q m dp k → k ≤ m from by
    rintro k (rfl | rfl | hk)
    · have := V4.out.lt; omega
    · omega
    · have := D4.out.lt _ hk; omega)
  obtain ⟨ua, hua⟩ : ∃ ua : Vw, ua = ⟨3, [], min (max s0 0) 64, [], min (max s1 0) 64⟩ := ⟨_, rfl⟩
  rw [← hua] at b5
  have HUV : ua = va := by rw [hua, HVA.out]; rfl
  have ST5 : Hid (VpSt W q m dp w5 va ua l') := Lib.hid {
    w := ⟨vwNone, vwNone, a2, c2, {
      bv := blk_keep f5 V4.out.blk (fun h => h)
      bm := b5
      va := V4.out.at_.gr f5
      ra := by rw [hua]; exact ⟨SlA.nil _, SlA.nil _, HC.out.keep (Gr.trans V4.out.gr f5) (fun _ _ h => h)⟩
      av := VwApart.none _ _
      au := VwApart.none _ _
      dr := D4.out.keep f5
      sep := vwNone_sep _
      da := HDA.out
      gr := Gr.trans V4.out.gr f5 }⟩
    like := by rw [HUV]; exact ⟨rfl, List.Perm.refl _, List.Perm.refl _, rfl, rfl⟩
    good := V4.out.at_.good
    sane := by rw [HVA.out]; exact ⟨by simp [vwNew], by simp [vwNew], by simp [vwNew]⟩ }
  clear hm f5 b5 l5 V4 D4 HPW HPQ hua HUV HVA y0 y1 SL HDA HC HCR HCR2 hb hl1 hz1 hz2 hzs hr1 hr2 hrs e3 e4 hWq
  go_upto_region 7 with fail
  go_wp2_with fail
  go_loopw [10] (fun iv wr => ∃ (k : Nat) (v u : Vw) (ds : List Int), iv = .int .i64 k ∧ k ≤ n1 ∧ VpSt W q m dp wr v u ds) (fun iv _ => n1 - (intOf iv).toNat)
  case atStart => exact ⟨0, va, ua, l', rfl, Nat.zero_le _, ST5.out⟩
  case round =>
    clear ST5
    obtain ⟨k, v, u, ds, rfl, hk, hst⟩ := hrel
    have ST := Lib.hid hst
    clear hst
    go_upto_region 8 with fail
    go_cut [47] from 40 to 47 (fun c wx => c = .bool (decide (k < n1)) ∧ wr = wx)
    case first =>
      by_cases h1 : (k : Int) < (L.length : Int)
      · by_cases h2 : (k : Int) < 70
        · have hd := Lib.hid (show decide (k < n1) = true by have := HN1.out; simp; omega)
          go_wp2_with fail
          go_meet
          exact ⟨by rw [hd.out], rfl⟩
        · have hd := Lib.hid (show decide (k < n1) = false by have := HN1.out; simp; omega)
          go_wp2_with fail
          go_meet
          exact ⟨by rw [hd.out], rfl⟩
      · have hd := Lib.hid (show decide (k < n1) = false by have := HN1.out; simp; omega)
        go_wp2_with fail
        go_meet
        exact ⟨by rw [hd.out], rfl⟩
    case rest =>
      obtain ⟨rfl, rfl⟩ := hcut
      by_cases hlt : k < n1
      · rw [decide_eq_true hlt]
        have hkl : k < L.length := by have := HN1.out; omega
        obtain ⟨y, z, da, dc, hw⟩ := ST.out.w
        obtain ⟨b, o, rfl, hcW⟩ := HL.out.elem (n := 3) (fun _ => rfl) (by omega) k hkl
        have hbW : b < W.heap.size := lt_of_cell (hcW 0 _ rfl)
        have hcc : ∀ (j : Nat) (v : Value), (Act3.cells L[k])[j]? = some v → wr.cell? ⟨b, o + k * 3 + j, none⟩ = some v := fun j v hv => hw.gr.cell (hcW j v hv) (fun h => h)
        clear hcW
        generalize L[k] = xv at hcc
        obtain ⟨wh, n, kp⟩ := xv
        obtain ⟨r1, r2, hr1, hr2, hr3, hr4, hr5, hr6⟩ := rem6 wh
        have g0 := hcc 0 _ rfl
        have g1 := hcc 1 _ rfl
        have g2 := hcc 2 _ rfl
        simp only [Nat.add_zero] at g0
        clear hcc
        go_upto_block 2 with fail
        have HW := Lib.hid hw
        obtain ⟨hla, hlp, hpm⟩ := like_len ST.out.like ST.out.good
        have HR := Lib.hid hw.dr.range
        have HB := Lib.hid (show ∀ w, Gr wr w → w.cell? ⟨b, o + k * 3 + 2, none⟩ = some (.bool kp) from fun w f => f.cell g2 (fun h => h))
        simp only at g2
        clear hw hr1 hr2 hr3 hr4 g0 g1
        go_cut [12, 13, 14, 15] from 63 to 131 (fun a b x y wx => vpEnd W q m dp a b x y wx)
        case first =>
          cases e2 : (r2 == 2)
          · cases e3 : (r2 == 3)
            · cases e4 : (r2 == 4)
              · cases e5 : (r2 == 5)
                · obtain ⟨ds', hds⟩ : ∃ ds', ds' = ds := ⟨_, rfl⟩
                  have hk1 := like_join ST.out.like ST.out.good n
                  have hk2 := like_joinOk ST.out.like ST.out.good n
                  have hk3 := vJoin_good ST.out.good n
                  have hk4 := vJoin_sane ST.out.good ST.out.sane n
                  have hk5 := fun (h : ds = []) => show ds' = [] by rw [hds]; exact h
                  have CV := Lib.hid (fun w (h : VpW W q m dp w v y u z ds ds da dc) => viewJoin_any v y n w h.va)
                  unfold VEnd0 at CV
                  have CR := Lib.hid (fun w (h : RwAt w u z ds da dc) => show Calls Try.prog 36 #[.agg (rwArr u z ds da dc), .int .i64 n] w (RwEnd u z da (rJoin u n) ds' (fun l => .tuple #[.agg l, .bool (!rJoinNo u n)]) w) by rw [hds]; exact refJoin_any u z n ds da dc w h hla hlp)
                  unfold RwEnd at CR
                  rw [hk2, Bool.not_not] at CR
                  have HDS := Lib.hid hds
                  generalize vJoin v n = v' at *
                  generalize rJoin u n = u' at *
                  generalize vJoinOk v n = ok at *
                  clear hds hk2
                  have HK := Lib.hid (And.intro hk1 (And.intro hk3 hk4))
                  have HN := Lib.hid hk5
                  clear hk1 hk3 hk4 hk5 hla hlp hpm
                  go_upto_region 14 with fail
                  refine wp_region_lit ?_
                  refine wpList_load_mid (by rfl) 29 _ (by rfl) q 0 (by rfl) (Array.toList (v.arr y)) _ (blk_range HW.out.bv) Try.underlying29 rfl Try.infoView ?_
                  go_wp2_with fail
                  refine (CV.out _ HW.out).mono ?_
                  rintro e w2 ⟨y', rfl, h2, f2, k2⟩
                  have HW2 := Lib.hid (HDS.out ▸ HW.out.keep f2 : VpW W q m dp w2 v y u z ds' ds da dc)
                  have H2 := Lib.hid h2
                  have AV := Lib.hid (HW.out.av.next k2 (vpS_lt HW.out))
                  have SEP := Lib.hid (HW.out.sep.of_from HW.out.dr k2)
                  clear h2 f2 k2 HW CV
                  go_wp2_with (refine wpList_storeW (vs := v'.arr y') HW2.out.bv (by rfl) 29 _ _ (by rfl) (by rfl) (by rfl) rfl Try.infoView (by rw [← Array.all_toList]; rfl) ?_)
                  intro w3 f3 b3
                  have HW3 := Lib.hid (HW2.out.storeV HCc.out f3 b3 H2.out AV.out SEP.out)
                  clear f3 b3 HW2 H2 AV SEP
                  go_upto_region 15 with fail
                  refine wp_region_lit ?_
                  refine wpList_load_mid (by rfl) 51 _ (by rfl) m 0 (by rfl) (Array.toList (rwArr u z ds da dc)) _ (blk_range HW3.out.bm) Try.underlying51 rfl Try.infoRefView ?_
                  go_wp2_with fail
                  refine (CR.out _ HW3.out.ra).mono ?_
                  rintro e w4 ⟨z', da', dc', rfl, h3, k3, hda3, f3⟩
                  have HW4 := Lib.hid (HW3.out.keep f3)
                  have H3 := Lib.hid h3
                  have AU := Lib.hid (HW3.out.au.next k3 (vpS_lt HW3.out))
                  have DA := Lib.hid (da_of HW3.out.da hda3 HN.out)
                  clear h3 k3 hda3 f3 HW3 CR
                  go_wp2_with (refine wpList_storeW (vs := rwArr u' z' ds' da' dc') HW4.out.bm (by rfl) 51 _ _ (by rfl) (by rfl) (by rfl) rfl Try.infoRefView (by rw [← Array.all_toList]; rfl) ?_)
                  intro w5 f5 b5
                  have HW5 := Lib.hid (HW4.out.storeM HCc.out f5 b5 H3.out AU.out DA.out)
                  clear f5 b5 HW4 H3
                  go_wp2_with fail
                  go_meet
                  unfold vpEnd
                  exact ⟨ok, 0, v', u', ds', rfl, rfl, rfl, rfl, ⟨⟨y', z', da', dc', HW5.out⟩, HK.out.1, HK.out.2.1, HK.out.2.2⟩⟩
                · obtain ⟨ds', hds⟩ : ∃ ds', ds' = ds := ⟨_, rfl⟩
                  have hk1 := like_forget ST.out.like ST.out.good n
                  have hk3 := vForget_good ST.out.good n
                  have hk4 := vForget_sane ST.out.good ST.out.sane n
                  have hk5 := fun (h : ds = []) => show ds' = [] by rw [hds]; exact h
                  have CV := Lib.hid (fun w (h : VpW W q m dp w v y u z ds ds da dc) => viewForget_any v y n w h.va)
                  unfold VEnd0 at CV
                  have CR := Lib.hid (fun w (h : RwAt w u z ds da dc) => show Calls Try.prog 35 #[.agg (rwArr u z ds da dc), .int .i64 n] w (RwEnd u z da (rForget u n) ds' (fun l => .agg l) w) by rw [hds]; exact refForget_any u z n ds da dc w h hlp)
                  unfold RwEnd at CR
                  have HDS := Lib.hid hds
                  generalize vForget v n = v' at *
                  generalize rForget u n = u' at *
                  clear hds
                  have HK := Lib.hid (And.intro hk1 (And.intro hk3 hk4))
                  have HN := Lib.hid hk5
                  clear hk1 hk3 hk4 hk5 hla hlp hpm
                  go_upto_region 25 with fail
                  have HW1 := Lib.hid (HW.out.keep ((Fr.refl _ _).drew))
                  haveI : Nonempty (WC (fun w => Bx w m (Array.toList (rwArr u z ds da dc)))) := ⟨⟨wr, Bx.of_block HW.out.bm⟩⟩
                  have x0 : ∀ z' : WC (fun w => Bx w m (Array.toList (rwArr u z ds da dc))), z'.val.cell? ⟨m, 0, none⟩ = some (.int .i64 u.self) := fun z' => z'.ok 0 _ rfl
                  have x1 : ∀ z' : WC (fun w => Bx w m (Array.toList (rwArr u z ds da dc))), z'.val.cell? ⟨m, 1, none⟩ = some (.slice z.aa u.act.length z.ac) := fun z' => z'.ok 1 _ rfl
                  have x2 : ∀ z' : WC (fun w => Bx w m (Array.toList (rwArr u z ds da dc))), z'.val.cell? ⟨m, 2, none⟩ = some (.slice z.pa u.pas.length z.pc) := fun z' => z'.ok 2 _ rfl
                  have x3 : ∀ z' : WC (fun w => Bx w m (Array.toList (rwArr u z ds da dc))), z'.val.cell? ⟨m, 3, none⟩ = some (.int .i64 u.am) := fun z' => z'.ok 3 _ rfl
                  have x4 : ∀ z' : WC (fun w => Bx w m (Array.toList (rwArr u z ds da dc))), z'.val.cell? ⟨m, 4, none⟩ = some (.int .i64 u.pm) := fun z' => z'.ok 4 _ rfl
                  have x5 : ∀ z' : WC (fun w => Bx w m (Array.toList (rwArr u z ds da dc))), z'.val.cell? ⟨m, 5, none⟩ = some (.slice da ds.length dc) := fun z' => z'.ok 5 _ rfl
                  clear HW
                  refine wp_region_lastO 7 [0, 2, 5, 6] [] [0, 1, 2, 3, 4, 5, 6] (fun w' => ∃ z' : WC (fun w => Bx w m (Array.toList (rwArr u z ds da dc))), w' = z'.val) (by kernel_rfl) (by kernel_rfl) (fun c a w d v h => by cases d <;> exact h) (fun c a w d v h => by cases d <;> exact h) ⟨⟨wr.drew, Bx.of_block HW1.out.bm⟩, rfl⟩ ?_
                  simp only [List.take]
                  refine wpT_e (by simp only [List.getElem?_toArray, List.getElem?_cons_zero] <;> rfl) (by rfl) ?_
                  refine wpList_load_mid (by rfl) 29 _ (by rfl) q 0 (by rfl) (Array.toList (v.arr y)) _ (blk_range HW1.out.bv) Try.underlying29 rfl Try.infoView ?_
                  go_wp2_with fail
                  refine ⟨⟨⟨_, Bx.of_block HW1.out.bm⟩, rfl⟩, ?_⟩
                  repeat (refine wpT_q (by simp only [List.getElem?_toArray, List.getElem?_cons_succ, List.getElem?_cons_zero] <;> rfl) (by rfl) (by rfl) ?_; go_big_quiet_step (fail); refine wpQuiet_nil ?_)
                  refine wpT_e (by simp only [List.getElem?_toArray, List.getElem?_cons_succ, List.getElem?_cons_zero] <;> rfl) (by rfl) ?_
                  go_wp2_with fail
                  refine (CV.out _ HW1.out).mono ?_
                  rintro e w2 ⟨y', rfl, h2, f2, k2⟩
                  have HW2 := Lib.hid (HDS.out ▸ HW1.out.keep f2 : VpW W q m dp w2 v y u z ds' ds da dc)
                  have H2 := Lib.hid h2
                  have AV := Lib.hid (HW1.out.av.next k2 (vpS_lt HW1.out))
                  have SEP := Lib.hid (HW1.out.sep.of_from HW1.out.dr k2)
                  clear h2 f2 k2 HW1 CV
                  go_wp2_with fail
                  refine ⟨⟨⟨w2, Bx.of_block HW2.out.bm⟩, rfl⟩, ?_⟩
                  repeat (refine wpT_q (by simp only [List.getElem?_toArray, List.getElem?_cons_succ, List.getElem?_cons_zero] <;> rfl) (by rfl) (by rfl) ?_; go_big_quiet_step (fail); refine wpQuiet_nil ?_)
                  refine wpT_e (by simp only [List.getElem?_toArray, List.getElem?_cons_succ, List.getElem?_cons_zero] <;> rfl) (by rfl) ?_
                  go_wp2_with fail
                  refine (CR.out _ HW2.out.ra).mono ?_
                  rintro e w3 ⟨z', da', dc', rfl, h3, k3, hda3, f3⟩
                  have HW3 := Lib.hid (HW2.out.keep f3)
                  have H3 := Lib.hid h3
                  have AU := Lib.hid (HW2.out.au.next k3 (vpS_lt HW2.out))
                  have DA := Lib.hid (da_of HW2.out.da hda3 HN.out)
                  have H3v := Lib.hid (H2.out.gr f3)
                  clear h3 k3 hda3 f3 HW2 CR H2
                  go_wp2_with fail
                  refine ⟨⟨⟨w3, Bx.of_block HW3.out.bm⟩, rfl⟩, ?_⟩
                  refine wpT_e (by simp only [List.getElem?_toArray, List.getElem?_cons_succ, List.getElem?_cons_zero] <;> rfl) (by rfl) ?_
                  go_wp2_with (refine wpList_storeW (vs := v'.arr y') HW3.out.bv (by rfl) 29 _ _ (by rfl) (by rfl) (by rfl) rfl Try.infoView (by rw [← Array.all_toList]; rfl) ?_)
                  intro w4 f4 b4
                  refine wpList_nil ?_
                  have HW4 := Lib.hid (HW3.out.storeV HCc.out f4 b4 H3v.out AV.out SEP.out)
                  have RA4 := Lib.hid (H3.out.keepS (AU.out.sub q_S) DA.out f4 (fun _ hk => hk ▸ HCc.out.q0))
                  clear f4 b4 HW3 H3v H3
                  refine ⟨⟨⟨w4, Bx.of_block HW4.out.bm⟩, rfl⟩, ?_⟩
                  clear x0 x1 x2 x3 x4 x5 this
                  refine wpT_nil ?_
                  simp only [lastQ, List.drop]
                  go_wp2_with (refine wpList_storeW (vs := rwArr u' z' ds' da' dc') HW4.out.bm (by rfl) 51 _ _ (by rfl) (by rfl) (by rfl) rfl Try.infoRefView (by rw [← Array.all_toList]; rfl) ?_)
                  intro w5 f5 b5
                  have HW5 := Lib.hid (HW4.out.storeM HCc.out f5 b5 RA4.out AU.out DA.out)
                  clear f5 b5 HW4 RA4
                  go_wp2_with fail
                  go_meet
                  unfold vpEnd
                  exact ⟨true, 0, v', u', ds', rfl, rfl, rfl, rfl, ⟨⟨y', z', da', dc', HW5.out⟩, HK.out.1, HK.out.2.1, HK.out.2.2⟩⟩
              · obtain ⟨hk1, hk2⟩ := like_leave ST.out.like ST.out.good n kp HR.out
                have hk3 := vLeave_good ST.out.good n kp ds
                have hk4 := vLeave_sane ST.out.good ST.out.sane n kp ds
                have hk5 := fun (h : ds = []) => show (rLeave u n kp ds).2.2 = [] by rw [h]; exact rLeave_nil u n kp
                have CV := Lib.hid (fun w (h : VpW W q m dp w v y u z ds ds da dc) => viewLeave_any v y n kp dp ds w h.va h.dr h.sep)
                unfold VEnd at CV
                have CR := Lib.hid (fun w (h : RwAt w u z ds da dc) => refLeave_any u z n kp ds da dc w h hla hlp hpm HR.out)
                unfold RwEnd at CR
                rw [hk2] at CR hk5
                generalize (vLeave v n kp ds).2.2 = ds' at *
                generalize (vLeave v n kp ds).2.1 = ok at *
                generalize (vLeave v n kp ds).1 = v' at *
                generalize (rLeave u n kp ds).1 = u' at *
                clear hk2
                have HK := Lib.hid (And.intro hk1 (And.intro hk3 hk4))
                have HN := Lib.hid hk5
                clear hk1 hk3 hk4 hk5 hla hlp hpm
                go_upto_region 22 with fail
                have HW1 := Lib.hid (HW.out.keep ((Fr.refl _ _).drew))
                have G2 := Lib.hid g2
                haveI : Nonempty (WC (fun w => w.cell? ⟨b, o + k * 3 + 2, none⟩ = some (.bool kp))) := ⟨⟨wr, g2⟩⟩
                have x0 : ∀ z' : WC (fun w => w.cell? ⟨b, o + k * 3 + 2, none⟩ = some (.bool kp)), z'.val.cell? ⟨b, o + k * 3 + 2, none⟩ = some (.bool kp) := fun z' => z'.ok
                clear HW g2
                refine wp_region_lastO 13 [0, 8, 12] [] [0, 1, 2, 3, 4, 5, 6, 7, 8, 9, 10, 11, 12] (fun w' => ∃ z' : WC (fun w => w.cell? ⟨b, o + k * 3 + 2, none⟩ = some (.bool kp)), w' = z'.val) (by kernel_rfl) (by kernel_rfl) (fun c a w d v h => by cases d <;> exact h) (fun c a w d v h => by cases d <;> exact h) ⟨⟨wr.drew, G2.out⟩, rfl⟩ ?_
                simp only [List.take]
                refine wpT_e (by simp only [List.getElem?_toArray, List.getElem?_cons_zero] <;> rfl) (by rfl) ?_
                refine wpList_load_mid (by rfl) 29 _ (by rfl) q 0 (by rfl) (Array.toList (v.arr y)) _ (blk_range HW1.out.bv) Try.underlying29 rfl Try.infoView ?_
                go_wp2_with fail
                refine ⟨⟨⟨wr.drew, G2.out⟩, rfl⟩, ?_⟩
                repeat (refine wpT_q (by simp only [List.getElem?_toArray, List.getElem?_cons_succ, List.getElem?_cons_zero] <;> rfl) (by rfl) (by rfl) ?_; go_big_quiet_step (fail); refine wpQuiet_nil ?_)
                refine wpT_e (by simp only [List.getElem?_toArray, List.getElem?_cons_succ, List.getElem?_cons_zero] <;> rfl) (by rfl) ?_
                go_wp2_with fail
                refine (CV.out _ HW1.out).mono ?_
                rintro e w2 ⟨y', rfl, h2, d2, f2, k2⟩
                have HW2 := Lib.hid (HW1.out.call HCc.out f2 d2)
                have G3 := Lib.hid (f2.cell (show wr.drew.cell? ⟨b, o + k * 3 + 2, none⟩ = some (.bool kp) from G2.out) (fun hk => by have := HCc.out.d0 _ hk; simp only at this; omega))
                have H2 := Lib.hid h2
                have AV := Lib.hid (HW1.out.av.next k2 (vpS_lt HW1.out))
                have SEP := Lib.hid (HW1.out.sep.of_from HW1.out.dr k2)
                clear h2 f2 k2 HW1 CV d2
                go_wp2_with fail
                refine ⟨⟨⟨w2, G3.out⟩, rfl⟩, ?_⟩
                repeat (refine wpT_q (by simp only [List.getElem?_toArray, List.getElem?_cons_succ, List.getElem?_cons_zero] <;> rfl) (by rfl) (by rfl) ?_; go_big_quiet_step (fail); refine wpQuiet_nil ?_)
                refine wpT_e (by simp only [List.getElem?_toArray, List.getElem?_cons_succ, List.getElem?_cons_zero] <;> rfl) (by rfl) ?_
                go_wp2_with (refine wpList_storeW (vs := v'.arr y') HW2.out.bv (by rfl) 29 _ _ (by rfl) (by rfl) (by rfl) rfl Try.infoView (by rw [← Array.all_toList]; rfl) ?_)
                intro w3 f3 b3
                refine wpList_nil ?_
                have HW3 := Lib.hid (HW2.out.storeV HCc.out f3 b3 H2.out AV.out SEP.out)
                have G4 := Lib.hid (f3.cell G3.out (fun hk => by have := HCc.out.q0; simp only at hk; omega))
                clear f3 b3 HW2 H2 AV SEP
                refine ⟨⟨⟨w3, G4.out⟩, rfl⟩, ?_⟩
                clear x0 this
                refine wpT_nil ?_
                simp only [lastQ, List.drop]
                go_upto_region 23 with fail
                haveI : Nonempty (WC (fun w => w.cell? ⟨b, o + k * 3 + 2, none⟩ = some (.bool kp))) := ⟨⟨w3, G4.out⟩⟩
                have x0 : ∀ z' : WC (fun w => w.cell? ⟨b, o + k * 3 + 2, none⟩ = some (.bool kp)), z'.val.cell? ⟨b, o + k * 3 + 2, none⟩ = some (.bool kp) := fun z' => z'.ok
                have HW4 := Lib.hid (HW3.out.keep ((Fr.refl _ _).drew))
                clear HW3
                refine wp_region_lastO 12 [0, 7, 11] [] [0, 1, 2, 3, 4, 5, 6, 7, 8, 9, 10, 11] (fun w' => ∃ z' : WC (fun w => w.cell? ⟨b, o + k * 3 + 2, none⟩ = some (.bool kp)), w' = z'.val) (by kernel_rfl) (by kernel_rfl) (fun c a w d v h => by cases d <;> exact h) (fun c a w d v h => by cases d <;> exact h) ⟨⟨w3.drew, G4.out⟩, rfl⟩ ?_
                simp only [List.take]
                refine wpT_e (by simp only [List.getElem?_toArray, List.getElem?_cons_zero] <;> rfl) (by rfl) ?_
                refine wpList_load_mid (by rfl) 51 _ (by rfl) m 0 (by rfl) (Array.toList (rwArr u z ds da dc)) _ (blk_range HW4.out.bm) Try.underlying51 rfl Try.infoRefView ?_
                go_wp2_with fail
                refine ⟨⟨⟨w3.drew, G4.out⟩, rfl⟩, ?_⟩
                simp only [Act.put, List.setIfInBounds_toArray, List.set_cons_succ, List.set_cons_zero]
                repeat (refine wpT_q (by simp only [List.getElem?_toArray, List.getElem?_cons_succ, List.getElem?_cons_zero] <;> rfl) (by rfl) (by rfl) ?_; go_big_quiet_step (fail); refine wpQuiet_nil ?_)
                refine wpT_e (by simp only [List.getElem?_toArray, List.getElem?_cons_succ, List.getElem?_cons_zero] <;> rfl) (by rfl) ?_
                go_wp2_with fail
                refine (CR.out _ HW4.out.ra).mono ?_
                rintro e w4 ⟨z', da', dc', rfl, h3, k3, hda3, f3⟩
                have HW6 := Lib.hid (HW4.out.keep f3)
                have H3 := Lib.hid h3
                have AU := Lib.hid (HW4.out.au.next k3 (vpS_lt HW4.out))
                have DA := Lib.hid (da_of HW4.out.da hda3 HN.out)
                have G5 := Lib.hid (f3.cell (show w3.drew.cell? ⟨b, o + k * 3 + 2, none⟩ = some (.bool kp) from G4.out) (fun h => h))
                clear h3 k3 hda3 f3 HW4 CR
                go_wp2_with fail
                refine ⟨⟨⟨w4, G5.out⟩, rfl⟩, ?_⟩
                repeat (refine wpT_q (by simp only [List.getElem?_toArray, List.getElem?_cons_succ, List.getElem?_cons_zero] <;> rfl) (by rfl) (by rfl) ?_; go_big_quiet_step (fail); refine wpQuiet_nil ?_)
                refine wpT_e (by simp only [List.getElem?_toArray, List.getElem?_cons_succ, List.getElem?_cons_zero] <;> rfl) (by rfl) ?_
                go_wp2_with (refine wpList_storeW (vs := rwArr u' z' ds' da' dc') HW6.out.bm (by rfl) 51 _ _ (by rfl) (by rfl) (by rfl) rfl Try.infoRefView (by rw [← Array.all_toList]; rfl) ?_)
                intro w5 f5 b5
                refine wpList_nil ?_
                have HW5 := Lib.hid (HW6.out.storeM HCc.out f5 b5 H3.out AU.out DA.out)
                have G6 := Lib.hid (f5.cell G5.out (fun hk => by have := HCc.out.m0; simp only at hk; omega))
                clear f5 b5 HW6 H3
                refine ⟨⟨⟨w5, G6.out⟩, rfl⟩, ?_⟩
                clear x0 this
                refine wpT_nil ?_
                simp only [lastQ, List.drop]
                go_wp2_with fail
                go_meet
                unfold vpEnd
                exact ⟨ok, 0, v', u', ds', rfl, rfl, rfl, rfl, ⟨⟨y', z', da', dc', HW5.out⟩, HK.out.1, HK.out.2.1, HK.out.2.2⟩⟩
            · obtain ⟨hk1, hk2⟩ := like_evict ST.out.like ST.out.good HR.out
              have hk3 := vEvict_good ST.out.good ds
              have hk4 := vEvict_sane ST.out.good ST.out.sane ds
              have hk5 := fun (h : ds = []) => show (rEvict u ds).2.2.2 = [] by rw [h]; exact rEvict_nil u
              have CV := Lib.hid (fun w (h : VpW W q m dp w v y u z ds ds da dc) => viewEvict_any v y dp ds w h.va h.dr h.sep)
              unfold VEnd at CV
              have CR := Lib.hid (fun w (h : RwAt w u z ds da dc) => refEvict_any u z ds da dc w h hla hlp hpm HR.out)
              unfold RwEnd at CR
              rw [hk2] at CR hk5
              generalize (vEvict v ds).2.2.2 = ds' at *
              generalize (vEvict v ds).2.2.1 = ok at *
              generalize (vEvict v ds).2.1 = xo at *
              generalize (vEvict v ds).1 = v' at *
              generalize (rEvict u ds).1 = u' at *
              clear hk2
              have HK := Lib.hid (And.intro hk1 (And.intro hk3 hk4))
              have HN := Lib.hid hk5
              clear hk1 hk3 hk4 hk5 hla hlp hpm
              go_upto_region 19 with fail
              refine wp_region_lit ?_
              refine wpList_load_mid (by rfl) 29 _ (by rfl) q 0 (by rfl) (Array.toList (v.arr y)) _ (blk_range HW.out.bv) Try.underlying29 rfl Try.infoView ?_
              go_wp2_with fail
              refine (CV.out _ HW.out).mono ?_
              rintro e w2 ⟨y', rfl, h2, d2, f2, k2⟩
              have HW2 := Lib.hid (HW.out.call HCc.out f2 d2)
              have H2 := Lib.hid h2
              have AV := Lib.hid (HW.out.av.next k2 (vpS_lt HW.out))
              have SEP := Lib.hid (HW.out.sep.of_from HW.out.dr k2)
              clear h2 f2 k2 HW CV
              clear d2
              go_wp2_with (refine wpList_storeW (vs := v'.arr y') HW2.out.bv (by rfl) 29 _ _ (by rfl) (by rfl) (by rfl) rfl Try.infoView (by rw [← Array.all_toList]; rfl) ?_)
              intro w3 f3 b3
              have HW3 := Lib.hid (HW2.out.storeV HCc.out f3 b3 H2.out AV.out SEP.out)
              clear f3 b3 HW2 H2 AV SEP
              go_upto_region 20 with fail
              refine wp_region_lit ?_
              refine wpList_load_mid (by rfl) 51 _ (by rfl) m 0 (by rfl) (Array.toList (rwArr u z ds da dc)) _ (blk_range HW3.out.bm) Try.underlying51 rfl Try.infoRefView ?_
              go_wp2_with fail
              refine (CR.out _ HW3.out.ra).mono ?_
              rintro e w4 ⟨z', da', dc', rfl, h3, k3, hda3, f3⟩
              have HW4 := Lib.hid (HW3.out.keep f3)
              have H3 := Lib.hid h3
              have AU := Lib.hid (HW3.out.au.next k3 (vpS_lt HW3.out))
              have DA := Lib.hid (da_of HW3.out.da hda3 HN.out)
              clear h3 k3 hda3 f3 HW3 CR
              go_wp2_with (refine wpList_storeW (vs := rwArr u' z' ds' da' dc') HW4.out.bm (by rfl) 51 _ _ (by rfl) (by rfl) (by rfl) rfl Try.infoRefView (by rw [← Array.all_toList]; rfl) ?_)
              intro w5 f5 b5
              have HW5 := Lib.hid (HW4.out.storeM HCc.out f5 b5 H3.out AU.out DA.out)
              clear f5 b5 HW4 H3
              go_wp2_with fail
              go_meet
              unfold vpEnd
              exact ⟨ok, xo, v', u', ds', rfl, rfl, rfl, rfl, ⟨⟨y', z', da', dc', HW5.out⟩, HK.out.1, HK.out.2.1, HK.out.2.2⟩⟩
          · obtain ⟨hk1, hk2⟩ := like_know ST.out.like ST.out.good n HR.out
            have hk3 := vKnow_good ST.out.good n ds
            have hk4 := vKnow_sane ST.out.good ST.out.sane n ds
            have hk5 := fun (h : ds = []) => show (rKnow u n ds).2 = [] by rw [h]; exact rKnow_nil u n
            have CV := Lib.hid (fun w (h : VpW W q m dp w v y u z ds ds da dc) => viewKnow_any v y n dp ds w h.va h.dr h.sep)
            unfold VEnd at CV
            have CR := Lib.hid (fun w (h : RwAt w u z ds da dc) => refKnow_any u z n ds da dc w h hlp hpm HR.out)
            unfold RwEnd at CR
            rw [hk2] at CR hk5
            generalize (vKnow v n ds).2 = ds' at *
            generalize (vKnow v n ds).1 = v' at *
            generalize (rKnow u n ds).1 = u' at *
            have HK := Lib.hid (And.intro hk1 (And.intro hk3 hk4))
            have HN := Lib.hid hk5
            clear hk1 hk3 hk4 hk5 hla hlp hpm
            go_upto_region 17 with fail
            have HW1 := Lib.hid (HW.out.keep ((Fr.refl _ _).drew))
            haveI : Nonempty (WC (fun w => Bx w m (Array.toList (rwArr u z ds da dc)))) := ⟨⟨wr, Bx.of_block HW.out.bm⟩⟩
            have x0 : ∀ z' : WC (fun w => Bx w m (Array.toList (rwArr u z ds da dc))), z'.val.cell? ⟨m, 0, none⟩ = some (.int .i64 u.self) := fun z' => z'.ok 0 _ rfl
            have x1 : ∀ z' : WC (fun w => Bx w m (Array.toList (rwArr u z ds da dc))), z'.val.cell? ⟨m, 1, none⟩ = some (.slice z.aa u.act.length z.ac) := fun z' => z'.ok 1 _ rfl
            have x2 : ∀ z' : WC (fun w => Bx w m (Array.toList (rwArr u z ds da dc))), z'.val.cell? ⟨m, 2, none⟩ = some (.slice z.pa u.pas.length z.pc) := fun z' => z'.ok 2 _ rfl
            have x3 : ∀ z' : WC (fun w => Bx w m (Array.toList (rwArr u z ds da dc))), z'.val.cell? ⟨m, 3, none⟩ = some (.int .i64 u.am) := fun z' => z'.ok 3 _ rfl
            have x4 : ∀ z' : WC (fun w => Bx w m (Array.toList (rwArr u z ds da dc))), z'.val.cell? ⟨m, 4, none⟩ = some (.int .i64 u.pm) := fun z' => z'.ok 4 _ rfl
            have x5 : ∀ z' : WC (fun w => Bx w m (Array.toList (rwArr u z ds da dc))), z'.val.cell? ⟨m, 5, none⟩ = some (.slice da ds.length dc) := fun z' => z'.ok 5 _ rfl
            clear HW
            refine wp_region_lastO 8 [0, 3, 6, 7] [] [0, 1, 2, 3, 4, 5, 6, 7] (fun w' => ∃ z' : WC (fun w => Bx w m (Array.toList (rwArr u z ds da dc))), w' = z'.val) (by kernel_rfl) (by kernel_rfl) (fun c a w d v h => by cases d <;> exact h) (fun c a w d v h => by cases d <;> exact h) ⟨⟨wr.drew, Bx.of_block HW1.out.bm⟩, rfl⟩ ?_
            simp only [List.take]
            refine wpT_e (by simp only [List.getElem?_toArray, List.getElem?_cons_zero] <;> rfl) (by rfl) ?_
            refine wpList_load_mid (by rfl) 29 _ (by rfl) q 0 (by rfl) (Array.toList (v.arr y)) _ (blk_range HW1.out.bv) Try.underlying29 rfl Try.infoView ?_
            go_wp2_with fail
            refine ⟨⟨⟨_, Bx.of_block HW1.out.bm⟩, rfl⟩, ?_⟩
            repeat (refine wpT_q (by simp only [List.getElem?_toArray, List.getElem?_cons_succ, List.getElem?_cons_zero] <;> rfl) (by rfl) (by rfl) ?_; go_big_quiet_step (fail); refine wpQuiet_nil ?_)
            refine wpT_e (by simp only [List.getElem?_toArray, List.getElem?_cons_succ, List.getElem?_cons_zero] <;> rfl) (by rfl) ?_
            go_wp2_with fail
            refine (CV.out _ HW1.out).mono ?_
            rintro e w2 ⟨y', rfl, h2, d2, f2, k2⟩
            have HW2 := Lib.hid (HW1.out.call HCc.out f2 d2)
            have H2 := Lib.hid h2
            have AV := Lib.hid (HW1.out.av.next k2 (vpS_lt HW1.out))
            have SEP := Lib.hid (HW1.out.sep.of_from HW1.out.dr k2)
            clear h2 f2 k2 HW1 CV
            clear d2
            go_wp2_with fail
            refine ⟨⟨⟨w2, Bx.of_block HW2.out.bm⟩, rfl⟩, ?_⟩
            repeat (refine wpT_q (by simp only [List.getElem?_toArray, List.getElem?_cons_succ, List.getElem?_cons_zero] <;> rfl) (by rfl) (by rfl) ?_; go_big_quiet_step (fail); refine wpQuiet_nil ?_)
            refine wpT_e (by simp only [List.getElem?_toArray, List.getElem?_cons_succ, List.getElem?_cons_zero] <;> rfl) (by rfl) ?_
            go_wp2_with fail
            refine (CR.out _ HW2.out.ra).mono ?_
            rintro e w3 ⟨z', da', dc', rfl, h3, k3, hda3, f3⟩
            have HW3 := Lib.hid (HW2.out.keep f3)
            have H3 := Lib.hid h3
            have AU := Lib.hid (HW2.out.au.next k3 (vpS_lt HW2.out))
            have DA := Lib.hid (da_of HW2.out.da hda3 HN.out)
            have H3v := Lib.hid (H2.out.gr f3)
            clear h3 k3 hda3 f3 HW2 CR H2
            go_wp2_with fail
            refine ⟨⟨⟨w3, Bx.of_block HW3.out.bm⟩, rfl⟩, ?_⟩
            refine wpT_e (by simp only [List.getElem?_toArray, List.getElem?_cons_succ, List.getElem?_cons_zero] <;> rfl) (by rfl) ?_
            go_wp2_with (refine wpList_storeW (vs := v'.arr y') HW3.out.bv (by rfl) 29 _ _ (by rfl) (by rfl) (by rfl) rfl Try.infoView (by rw [← Array.all_toList]; rfl) ?_)
            intro w4 f4 b4
            refine wpList_nil ?_
            have HW4 := Lib.hid (HW3.out.storeV HCc.out f4 b4 H3v.out AV.out SEP.out)
            have RA4 := Lib.hid (H3.out.keepS (AU.out.sub q_S) DA.out f4 (fun _ hk => hk ▸ HCc.out.q0))
            clear f4 b4 HW3 H3v H3
            refine ⟨⟨⟨w4, Bx.of_block HW4.out.bm⟩, rfl⟩, ?_⟩
            clear x0 x1 x2 x3 x4 x5 this
            refine wpT_nil ?_
            simp only [lastQ, List.drop]
            go_wp2_with (refine wpList_storeW (vs := rwArr u' z' ds' da' dc') HW4.out.bm (by rfl) 51 _ _ (by rfl) (by rfl) (by rfl) rfl Try.infoRefView (by rw [← Array.all_toList]; rfl) ?_)
            intro w5 f5 b5
            have HW5 := Lib.hid (HW4.out.storeM HCc.out f5 b5 RA4.out AU.out DA.out)
            clear f5 b5 HW4 RA4
            go_wp2_with fail
            go_meet
            unfold vpEnd
            exact ⟨true, 0, v', u', ds', rfl, rfl, rfl, rfl, ⟨⟨y', z', da', dc', HW5.out⟩, HK.out.1, HK.out.2.1, HK.out.2.2⟩⟩
        case rest =>
          unfold vpEnd at hcut
          generalize wc = we at *
          obtain ⟨ab, xi, v', u', ds', rfl, rfl, rfl, rfl, hst⟩ := hcut
          obtain ⟨y', z', da', dc', hw2⟩ := hst.w
          have ST2 := Lib.hid hst
          have HW2 := Lib.hid hw2
          obtain ⟨pa', pb', pc'⟩ := like_len hst.like hst.good
          have q1 := hst.good.act.fit
          have q2 := hst.good.pas.fit
          have q3 := hst.like.am
          have q4 := hst.like.pm
          have hd1 : decide (u'.am < (v'.act.length : Int)) = false := by simp; omega
          have hd2 : decide (u'.pm < (v'.pas.length : Int)) = false := by simp; omega
          have hbb : (ab != ab) = false := by cases ab <;> rfl
          have CS := Lib.hid (fun w (f : Gr we w) => viewSane_any v' y' w (HW2.out.va.gr f))
          rw [(vSane_iff v').2 ST2.out.sane] at CS
          have CA := Lib.hid (fun w => setLen_any y'.aa v'.act.length y'.ac v'.am w)
          have CP := Lib.hid (fun w => setLen_any y'.pa v'.pas.length y'.pc v'.pm w)
          have YA := Lib.hid (fun w (f : Gr we w) => setAll_any y'.aa y'.ac v'.act v'.am w (HW2.out.va.gr f).act ST2.out.good.act)
          have YP := Lib.hid (fun w (f : Gr we w) => setAll_any y'.pa y'.pc v'.pas v'.pm w (HW2.out.va.gr f).pas ST2.out.good.pas)
          have ZA := Lib.hid (fun w (f : Gr we w) => refSorted_sl z'.aa z'.ac u'.act v'.act w (HW2.out.ra.gr f).act ST2.out.like.act ST2.out.good.act.le pa')
          have ZP := Lib.hid (fun w (f : Gr we w) => refSorted_sl z'.pa z'.pc u'.pas v'.pas w (HW2.out.ra.gr f).pas ST2.out.like.pas ST2.out.good.pas.le pb')
          have e5 := HW2.out.va.act.le
          have e6 := HW2.out.va.act.max
          have e7 := HW2.out.va.pas.le
          have e8 := HW2.out.va.pas.max
          haveI : Nonempty (WC (Gr we)) := ⟨⟨we, Fr.refl _ _⟩⟩
          have z0 : ∀ z2 : WC (Gr we), z2.val.cell? ⟨q, 0, none⟩ = some (.int .i64 v'.self) := fun z2 => z2.ok.cell ((Bx.of_block HW2.out.bv) 0 _ rfl) (fun h => h)
          have z1 : ∀ z2 : WC (Gr we), z2.val.cell? ⟨q, 1, none⟩ = some (.slice y'.aa v'.act.length y'.ac) := fun z2 => z2.ok.cell ((Bx.of_block HW2.out.bv) 1 _ rfl) (fun h => h)
          have z2 : ∀ z2 : WC (Gr we), z2.val.cell? ⟨q, 2, none⟩ = some (.int .i64 v'.am) := fun z2 => z2.ok.cell ((Bx.of_block HW2.out.bv) 2 _ rfl) (fun h => h)
          have z3 : ∀ z2 : WC (Gr we), z2.val.cell? ⟨q, 3, none⟩ = some (.slice y'.pa v'.pas.length y'.pc) := fun z2 => z2.ok.cell ((Bx.of_block HW2.out.bv) 3 _ rfl) (fun h => h)
          have z4 : ∀ z2 : WC (Gr we), z2.val.cell? ⟨q, 4, none⟩ = some (.int .i64 v'.pm) := fun z2 => z2.ok.cell ((Bx.of_block HW2.out.bv) 4 _ rfl) (fun h => h)
          have x0 : ∀ z2 : WC (Gr we), z2.val.cell? ⟨m, 0, none⟩ = some (.int .i64 u'.self) := fun z2 => z2.ok.cell ((Bx.of_block HW2.out.bm) 0 _ rfl) (fun h => h)
          have x1 : ∀ z2 : WC (Gr we), z2.val.cell? ⟨m, 1, none⟩ = some (.slice z'.aa u'.act.length z'.ac) := fun z2 => z2.ok.cell ((Bx.of_block HW2.out.bm) 1 _ rfl) (fun h => h)
          have x2 : ∀ z2 : WC (Gr we), z2.val.cell? ⟨m, 2, none⟩ = some (.slice z'.pa u'.pas.length z'.pc) := fun z2 => z2.ok.cell ((Bx.of_block HW2.out.bm) 2 _ rfl) (fun h => h)
          have x3 : ∀ z2 : WC (Gr we), z2.val.cell? ⟨m, 3, none⟩ = some (.int .i64 u'.am) := fun z2 => z2.ok.cell ((Bx.of_block HW2.out.bm) 3 _ rfl) (fun h => h)
          have x4 : ∀ z2 : WC (Gr we), z2.val.cell? ⟨m, 4, none⟩ = some (.int .i64 u'.pm) := fun z2 => z2.ok.cell ((Bx.of_block HW2.out.bm) 4 _ rfl) (fun h => h)
          have x5 : ∀ z2 : WC (Gr we), z2.val.cell? ⟨m, 5, none⟩ = some (.slice da' ds'.length dc') := fun z2 => z2.ok.cell ((Bx.of_block HW2.out.bm) 5 _ rfl) (fun h => h)
          clear hst hw2 ST HW HR HB g2 hla hlp hpm q1 q2 q3 q4 pa' pb' pc' hbW
          go_upto_region 26 with fail
          go_cut [160] from 132 to 160 (fun c wx => c = .bool false ∧ Gr we wx)
          case first =>
            refine wp_region_plan [10, 16, 24] (Plan.seq [0, 1, 2, 3, 4, 5, 6, 7, 8, 9, 10, 11, 12, 13, 14, 15, 16, 17, 18, 19, 20, 21, 22, 23, 24, 25, 26, 27, 28] .done) (fun w' => ∃ z' : WC (Gr we), w' = z'.val) (by kernel_rfl) (by kernel_rfl) (fun c a w d v h => by cases d <;> exact h) (fun c a w d v h => by cases d <;> exact h) ⟨⟨we.drew, (Fr.refl _ _).drew⟩, rfl⟩ ?_
            simp only [Plan.seq, List.foldr]
            refine wpV_q (by simp only [List.getElem?_toArray, List.getElem?_cons_zero] <;> rfl) (by rfl) (by rfl) ?_
            go_big_quiet_step (fail)
            refine wpQuiet_nil ?_
            repeat (refine wpV_q (by simp only [List.getElem?_toArray, List.getElem?_cons_succ, List.getElem?_cons_zero] <;> rfl) (by rfl) (by rfl) ?_; go_big_quiet_step (fail); refine wpQuiet_nil ?_)
            refine wpV_e (by simp only [List.getElem?_toArray, List.getElem?_cons_succ, List.getElem?_cons_zero] <;> rfl) (by rfl) ?_
            go_wp2_with fail
            refine (CS.out _ ((Fr.refl _ _).drew)).mono ?_
            rintro e w2 ⟨rfl, f2⟩
            have F2 : Gr we w2 := Gr.trans ((Fr.refl _ _).drew) f2
            go_wp2_with fail
            refine ⟨⟨⟨w2, F2⟩, rfl⟩, ?_⟩
            repeat (refine wpV_q (by simp only [List.getElem?_toArray, List.getElem?_cons_succ, List.getElem?_cons_zero] <;> rfl) (by rfl) (by rfl) ?_; go_big_quiet_step (fail); refine wpQuiet_nil ?_)
            refine wpV_e (by simp only [List.getElem?_toArray, List.getElem?_cons_succ, List.getElem?_cons_zero] <;> rfl) (by rfl) ?_
            go_wp2_with fail
            refine (CA.out _).mono ?_
            rintro e w3 ⟨rfl, f3⟩
            have F3 : Gr we w3 := Gr.trans F2 f3
            go_wp2_with fail
            refine ⟨⟨⟨w3, F3⟩, rfl⟩, ?_⟩
            repeat (refine wpV_q (by simp only [List.getElem?_toArray, List.getElem?_cons_succ, List.getElem?_cons_zero] <;> rfl) (by rfl) (by rfl) ?_; go_big_quiet_step (fail); refine wpQuiet_nil ?_)
            refine wpV_e (by simp only [List.getElem?_toArray, List.getElem?_cons_succ, List.getElem?_cons_zero] <;> rfl) (by rfl) ?_
            go_wp2_with fail
            refine (CP.out _).mono ?_
            rintro e w4 ⟨rfl, f4⟩
            have F4 : Gr we w4 := Gr.trans F3 f4
            go_wp2_with fail
            refine ⟨⟨⟨w4, F4⟩, rfl⟩, ?_⟩
            repeat (refine wpV_q (by simp only [List.getElem?_toArray, List.getElem?_cons_succ, List.getElem?_cons_zero] <;> rfl) (by rfl) (by rfl) ?_; go_big_quiet_step (fail); refine wpQuiet_nil ?_)
            refine wpV_done ?_
            have F4' := Lib.hid F4
            clear z0 z1 z2 z3 z4 x0 x1 x2 x3 x4 x5 this f2 F2 f3 F3 f4 F4
            go_wp2_with fail
            go_meet
            exact ⟨rfl, F4'.out⟩
          case rest =>
            obtain ⟨rfl, g0⟩ := hcut
            generalize wc = wd at *
            have LE := Lib.hid (fun w (f : Gr we w) => leftV_any dp ds' w (HW2.out.dr.keep f) HCc.out.dd)
            clear CS CA CP hd1 hd2 hbb
            have hbb : ((ds'.length : Int) != (ds'.length : Int)) = false := by simp
            go_upto_region 28 with fail
            go_cut [186] from 161 to 186 (fun c wx => c = .bool false ∧ Gr we wx)
            case first =>
              refine wp_region_plan [2, 5, 6, 11, 14, 15, 20] (Plan.seq [0, 1, 2, 3, 4, 5, 6, 7, 8, 9, 10, 11, 12, 13, 14, 15, 16, 17, 18, 19, 20, 21, 22, 23, 24, 25] .done) (fun w' => ∃ z' : WC (Gr we), w' = z'.val) (by kernel_rfl) (by kernel_rfl) (fun c a w d v h => by cases d <;> exact h) (fun c a w d v h => by cases d <;> exact h) ⟨⟨wd.drew, g0.drew⟩, rfl⟩ ?_
              simp only [Plan.seq, List.foldr]
              refine wpV_q (by simp only [List.getElem?_toArray, List.getElem?_cons_zero] <;> rfl) (by rfl) (by rfl) ?_
              go_big_quiet_step (fail)
              refine wpQuiet_nil ?_
              repeat (refine wpV_q (by simp only [List.getElem?_toArray, List.getElem?_cons_succ, List.getElem?_cons_zero] <;> rfl) (by rfl) (by rfl) ?_; go_big_quiet_step (fail); refine wpQuiet_nil ?_)
              refine wpV_e (by simp only [List.getElem?_toArray, List.getElem?_cons_succ, List.getElem?_cons_zero] <;> rfl) (by rfl) ?_
              go_wp2_with fail
              refine (YA.out _ g0.drew).mono ?_
              rintro e w20 ⟨vv, rfl, ho, hb⟩
              obtain ⟨a20, c20, rfl, h20, -⟩ := SlA.of_own ho
              have F20 : Gr we w20 := Gr.trans g0.drew (Gr.of_below hb)
              clear ho hb
              go_wp2_with fail
              refine ⟨⟨⟨w20, F20⟩, rfl⟩, ?_⟩
              repeat (refine wpV_q (by simp only [List.getElem?_toArray, List.getElem?_cons_succ, List.getElem?_cons_zero] <;> rfl) (by rfl) (by rfl) ?_; go_big_quiet_step (fail); refine wpQuiet_nil ?_)
              refine wpV_e (by simp only [List.getElem?_toArray, List.getElem?_cons_succ, List.getElem?_cons_zero] <;> rfl) (by rfl) ?_
              go_wp2_with fail
              refine (ZA.out _ F20).mono ?_
              rintro e w21 ⟨a21, c21, rfl, h21, f21⟩
              have F21 : Gr we w21 := Gr.trans F20 f21
              have h22 := h20.keep f21 (fun _ _ h => h)
              clear f21 h20
              go_wp2_with fail
              refine ⟨⟨⟨w21, F21⟩, rfl⟩, ?_⟩
              refine wpV_e (by simp only [List.getElem?_toArray, List.getElem?_cons_succ, List.getElem?_cons_zero] <;> rfl) (by rfl) ?_
              go_wp2_with fail
              refine (refSame_any a20 c20 v'.act a21 c21 v'.act _ h22 h21).mono ?_
              rintro e w22 ⟨rfl, q20, hq20⟩
              rw [(same_iff v'.act v'.act).2 rfl]
              have F22 : Gr we w22 := by rw [hq20]; exact F21.drewN q20
              clear hq20 h22 h21
              go_wp2_with fail
              refine ⟨⟨⟨w22, F22⟩, rfl⟩, ?_⟩
              repeat (refine wpV_q (by simp only [List.getElem?_toArray, List.getElem?_cons_succ, List.getElem?_cons_zero] <;> rfl) (by rfl) (by rfl) ?_; go_big_quiet_step (fail); refine wpQuiet_nil ?_)
              refine wpV_e (by simp only [List.getElem?_toArray, List.getElem?_cons_succ, List.getElem?_cons_zero] <;> rfl) (by rfl) ?_
              go_wp2_with fail
              refine (YP.out _ F22).mono ?_
              rintro e w30 ⟨vv, rfl, ho, hb⟩
              obtain ⟨a30, c30, rfl, h30, -⟩ := SlA.of_own ho
              have F30 : Gr we w30 := Gr.trans F22 (Gr.of_below hb)
              clear ho hb
              go_wp2_with fail
              refine ⟨⟨⟨w30, F30⟩, rfl⟩, ?_⟩
              repeat (refine wpV_q (by simp only [List.getElem?_toArray, List.getElem?_cons_succ, List.getElem?_cons_zero] <;> rfl) (by rfl) (by rfl) ?_; go_big_quiet_step (fail); refine wpQuiet_nil ?_)
              refine wpV_e (by simp only [List.getElem?_toArray, List.getElem?_cons_succ, List.getElem?_cons_zero] <;> rfl) (by rfl) ?_
              go_wp2_with fail
              refine (ZP.out _ F30).mono ?_
              rintro e w31 ⟨a31, c31, rfl, h31, f31⟩
              have F31 : Gr we w31 := Gr.trans F30 f31
              have h32 := h30.keep f31 (fun _ _ h => h)
              clear f31 h30
              go_wp2_with fail
              refine ⟨⟨⟨w31, F31⟩, rfl⟩, ?_⟩
              refine wpV_e (by simp only [List.getElem?_toArray, List.getElem?_cons_succ, List.getElem?_cons_zero] <;> rfl) (by rfl) ?_
              go_wp2_with fail
              refine (refSame_any a30 c30 v'.pas a31 c31 v'.pas _ h32 h31).mono ?_
              rintro e w32 ⟨rfl, q30, hq30⟩
              rw [(same_iff v'.pas v'.pas).2 rfl]
              have F32 : Gr we w32 := by rw [hq30]; exact F31.drewN q30
              clear hq30 h32 h31
              go_wp2_with fail
              refine ⟨⟨⟨w32, F32⟩, rfl⟩, ?_⟩
              repeat (refine wpV_q (by simp only [List.getElem?_toArray, List.getElem?_cons_succ, List.getElem?_cons_zero] <;> rfl) (by rfl) (by rfl) ?_; go_big_quiet_step (fail); refine wpQuiet_nil ?_)
              refine wpV_e (by simp only [List.getElem?_toArray, List.getElem?_cons_succ, List.getElem?_cons_zero] <;> rfl) (by rfl) ?_
              go_wp2_with fail
              refine (LE.out _ F32).mono ?_
              rintro e w40 ⟨rfl, hw40⟩
              have F40 : Gr we w40 := hw40 ▸ F32
              go_wp2_with fail
              refine ⟨⟨⟨w40, F40⟩, rfl⟩, ?_⟩
              repeat (refine wpV_q (by simp only [List.getElem?_toArray, List.getElem?_cons_succ, List.getElem?_cons_zero] <;> rfl) (by rfl) (by rfl) ?_; go_big_quiet_step (fail); refine wpQuiet_nil ?_)
              refine wpV_done ?_
              clear hw40
              have F4' := Lib.hid F40
              clear z0 z1 z2 z3 z4 x0 x1 x2 x3 x4 x5 this F20 F21 F22 F30 F31 F32 F40
              go_wp2_with fail
              go_meet
              exact ⟨rfl, F4'.out⟩
            case rest =>
              obtain ⟨rfl, g1⟩ := hcut
              have GX := Lib.hid g1
              clear g1 g0 z0 z1 z2 z3 z4 x0 x1 x2 x3 x4 x5 this YA YP ZA ZP LE hbb
              go_wp2_with fail
              go_roundw
              case rel => exact ⟨k + 1, v', u', ds', by go_num, hlt, ⟨⟨y', z', da', dc', HW2.out.keep GX.out⟩, ST2.out.like, ST2.out.good, ST2.out.sane⟩⟩
              case measure => simp [intOf]; omega
      · rw [decide_eq_false hlt]
        obtain ⟨y, z, da, dc, hw⟩ := ST.out.w
        have GX := Lib.hid hw.gr
        clear hw ST HL
        go_wp2_with fail
        go_ret
        exact ⟨rfl, GX.out⟩
end Go.Proofs.Ytdpnkikaciigoaa
