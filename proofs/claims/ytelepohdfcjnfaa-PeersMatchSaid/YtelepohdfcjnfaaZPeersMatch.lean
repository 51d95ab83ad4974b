/-
  The walk of PeersMatch (printed by gen_pmatch.py).
-/
import Derived.Test.YtelepohdfcjnfaaZPeLaw
import Derived.Test.YtelepohdfcjnfaaZRegionT
import Derived.Deep.CutRange
import Derived.Deep.CutBlock
namespace Go.Proofs.Ytelepohdfcjnfaa
open Go.RowKit Go.Proofs

set_option maxHeartbeats 16000000 in
set_option maxRecDepth 100000 in
theorem peersMatch_walk (a1 : Option Addr) (c1 : Nat) (L : List (Int × Int)) (a2 : Option Addr) (c2 : Nat) (act0 : List Int) (W : World) (h1 : SlA W a1 L.length c1 (L.flatMap pc2)) (h2 : SlA W a2 act0.length c2 (ints act0)) :
    Calls Try.prog 7 #[.slice a1 L.length c1, .slice a2 act0.length c2] W fun e w' => e = .returned (.bool true) ∧ Gr W w' := by
  obtain ⟨ip, hp1, hp2, hp3⟩ := info_pair Try.zeroPeers
  obtain ⟨ir, hr1, hr2, hr3⟩ := info_pair Try.zeroRPeers
  have HL := Lib.hid h1
  have e1 := h1.le
  have e2 := h1.max
  have e3 := h2.le
  have e4 := h2.max
  obtain ⟨act, ha1, ha2, ha3, ha4, ha5⟩ := cut_list (Value.int .i64) W a2 c2 act0 70 70 rfl h2
  have e5 := ha3.le
  have HA := Lib.hid ha3
  have S0 := Lib.hid (speaks17_any W)
  obtain ⟨u0, h0⟩ : ∃ u : Pe, u = ⟨[], []⟩ := ⟨_, rfl⟩
  obtain ⟨m0, hm0⟩ : ∃ u : Pe, u = ⟨[], []⟩ := ⟨_, rfl⟩
  have CN := Lib.hid (fun w => (h0 ▸ peersNew_any w : Calls Try.prog 26 #[] w fun e w' => e = .returned (.agg (u0.arr peNoP)) ∧ Gr w w'))
  have HI0 := Lib.hid (show PLike u0 m0 ∧ u0.Good by rw [h0, hm0]; exact ⟨plike_none, pe_none⟩)
  have H0 := Lib.hid h0
  have HM0 := Lib.hid hm0
  clear h1 h0 hm0 h2 ha2 ha3
  go_enter Try.func7, Try.ntmps7
  go_wp2_with fail
  refine S0.out.mono ?_
  rintro e w1 ⟨rfl, f1⟩
  have F1 := Lib.hid f1
  clear f1 S0
  go_wp2_with fail
  refine (CN.out _).mono ?_
  rintro e w2 ⟨rfl, f2⟩
  have ST1 := Lib.hid (show Sta w1 (fun _ => True) (.pointer none) [] [] [] (prows u0 peNoP (prows m0 peNoP [])) w2 from ((((Sta.initR (W := w1) (R := []) (fun _ h => nomatch h)).gr f2).addNil (r := ⟨none, m0.z.length, 0, ints m0.z⟩) (by rw [HM0.out]; rfl) (by rw [HM0.out]; decide) (Nat.zero_le _)).addNil (r := ⟨none, m0.e.length, 0, ints m0.e⟩) (by rw [HM0.out]; rfl) (by rw [HM0.out]; decide) (Nat.zero_le _)).addNil (r := ⟨none, u0.z.length, 0, ints u0.z⟩) (by rw [H0.out]; rfl) (by rw [H0.out]; decide) (Nat.zero_le _) |>.addNil (r := ⟨none, u0.e.length, 0, ints u0.e⟩) (by rw [H0.out]; rfl) (by rw [H0.out]; decide) (Nat.zero_le _))
  clear f2 CN
  go_wp2_with (refine wpList_fresh (vs := u0.arr peNoP) hp1 hp2 Try.infoPeers (by rfl) (by rw [← Array.all_toList]; rfl) (by rfl) (by rfl) ?_)
  intro w3 f_ b_ l_
  obtain ⟨b5, hb_⟩ : ∃ b, b = w2.heap.size := ⟨_, rfl⟩
  rw [← hb_] at b_ l_ ⊢
  have ST2 := Lib.hid (show Sta w1 (fun _ => True) (.pointer none) [] [⟨b5, u0.arr peNoP, 74⟩] [] (prows u0 peNoP (prows m0 peNoP [])) w3 from ST1.out.var f_ b_ (Nat.le_of_eq hb_.symm))
  clear ST1 f_ b_ l_ hb_
  go_upto_region 4 with fail
  have HZ : rpeZ = m0.rarr peNoP := by rw [HM0.out]; rfl
  go_upto_region 5 with fail
  obtain ⟨w4, hw_⟩ : ∃ x, x = w3.alloc (.cells (m0.rarr peNoP) 77) := ⟨_, rfl⟩
  obtain ⟨b6, hb_⟩ : ∃ b, b = w3.heap.size := ⟨_, rfl⟩
  rw [← hw_, ← hb_]
  clear HZ
  have ST3 := Lib.hid (show Sta w1 (fun _ => True) (.pointer none) [] [⟨b6, m0.rarr peNoP, 77⟩, ⟨b5, u0.arr peNoP, 74⟩] [] (prows u0 peNoP (prows m0 peNoP [])) w4 from hw_ ▸ ST2.out.box _ _ hb_)
  clear ST2 hw_ hb_
  clear H0 HM0
  go_wp2_with fail
  go_loopw [7] (fun iv wr => ∃ (k : Nat) (u : Pe) (x : PeP) (m : Pe) (y : PeP), iv = .int .i64 k ∧ k ≤ L.length ∧ u.Good ∧ PLike u m ∧ Sta w1 (fun _ => True) (.pointer none) [] [⟨b6, m.rarr y, 77⟩, ⟨b5, u.arr x, 74⟩] [] (prows u x (prows m y [])) wr) (fun iv _ => L.length - (intOf iv).toNat)
  case atStart => exact ⟨0, u0, peNoP, m0, peNoP, rfl, Nat.zero_le _, HI0.out.2, HI0.out.1, ST3.out⟩
  case round =>
    obtain ⟨k, u, x, m, y, rfl, hk, hg, hl, hst⟩ := hrel
    clear ST3 HI0
    have ST20 := Lib.hid hst
    have HG := Lib.hid hg
    have HLK := Lib.hid hl
    clear hst hg hl
    by_cases hlk : k < L.length ∧ k < 70
    · have d1 : decide ((k : Int) < (L.length : Int)) = true := decide_eq_true (by omega)
      have d2 : decide ((k : Int) < 70) = true := decide_eq_true (by omega)
      have hlt := hlk.1
      clear hlk
      have HLr := Lib.hid (HL.out.keep F1.out (fun _ _ h => h))
      obtain ⟨bo, oo, rfl, hel⟩ := SlA.elem (f := pc2) (n := 2) (fun _ => rfl) (by decide) HLr.out k hlt
      have C0 := Lib.hid (fun w (f : Gr w1 w) => show w.cell? ⟨bo, oo + k * 2, none⟩ = some (.int .i64 L[k].1) from f.cell (hel 0 _ rfl) (fun h => h))
      have C1 := Lib.hid (fun w (f : Gr w1 w) => show w.cell? ⟨bo, oo + k * 2 + 1, none⟩ = some (.int .i64 L[k].2) from f.cell (hel 1 _ rfl) (fun h => h))
      clear hel HLr
      generalize L[k].1 = wh at C0
      generalize L[k].2 = n at C1
      obtain ⟨u', hu_⟩ : ∃ v, v = peUp u n := ⟨_, rfl⟩
      obtain ⟨m', hm_⟩ : ∃ v, v = rpUp m n := ⟨_, rfl⟩
      have HG2 := Lib.hid (show u'.Good by rw [hu_]; exact HG.out.up n)
      have HL2 := Lib.hid (show PLike u' m' by rw [hu_, hm_]; exact HLK.out.up n)
      have HFEW := Lib.hid (HLK.out.few HG.out)
      have CU := Lib.hid (fun O w h => (hu_ ▸ peersUp_any u x n O w h HG.out : Calls Try.prog _ _ w (PEnd w O u' (fun a => .agg a))))
      have CM := Lib.hid (fun O w h => (hm_ ▸ rpUp_any m y n O w h HFEW.out : Calls Try.prog _ _ w (RPEnd w O m' (fun a => .agg a))))
      have HFEW2 := Lib.hid (HL2.out.few HG2.out)
      clear hu_ hm_ HFEW
      go_upto_region 8 with fail
      clear d1 d2
      obtain ⟨wd, hwd⟩ : ∃ x, x = wr.drew := ⟨_, rfl⟩
      have HWD := Lib.hid hwd
      have ST21 := Lib.hid (show Sta w1 (fun _ => True) (.pointer none) [] [⟨b6, m.rarr y, 77⟩, ⟨b5, u.arr x, 74⟩] [] (prows u x (prows m y [])) wd from hwd ▸ ST20.out.gr ((Fr.refl _ _).drew))
      clear ST20 hwd
      haveI : Nonempty (WC (fun w => w.heap[b6]? = some (.cells (m.rarr y) 77 (0, 0)) ∧ w.heap[b5]? = some (.cells (u.arr x) 74 (0, 0)) ∧ w.cell? ⟨bo, oo + k * 2 + 1, none⟩ = some (.int .i64 n))) := ⟨⟨wd, ⟨ST21.out.blkAt 0 rfl, ST21.out.blkAt 1 rfl, C1.out _ ST21.out.grW⟩⟩⟩
      have qc : ∀ z : WC (fun w => w.heap[b6]? = some (.cells (m.rarr y) 77 (0, 0)) ∧ w.heap[b5]? = some (.cells (u.arr x) 74 (0, 0)) ∧ w.cell? ⟨bo, oo + k * 2 + 1, none⟩ = some (.int .i64 n)), z.val.cell? ⟨bo, oo + k * 2 + 1, none⟩ = some (.int .i64 n) := fun z => z.ok.2.2
      refine wp_region_tail 14 2 [6, 13] (Plan.seq [0, 1, 2, 3, 4, 5, 6, 7, 8, 9, 10, 11, 12, 13] .done) [14, 15] [14, 15] (fun w' => ∃ z : WC (fun w => w.heap[b6]? = some (.cells (m.rarr y) 77 (0, 0)) ∧ w.heap[b5]? = some (.cells (u.arr x) 74 (0, 0)) ∧ w.cell? ⟨bo, oo + k * 2 + 1, none⟩ = some (.int .i64 n)), w' = z.val) (by kernel_rfl) (by kernel_rfl) (fun c a w d v h => by cases d <;> exact h) (fun c a w d v h => by cases d <;> exact h) (by rw [← HWD.out]; exact ⟨⟨wd, ⟨ST21.out.blkAt 0 rfl, ST21.out.blkAt 1 rfl, C1.out _ ST21.out.grW⟩⟩, rfl⟩) ?_
      rw [← HWD.out]
      clear HWD
      simp only [List.take]
      refine wpV_q (by simp only [List.getElem?_toArray, List.getElem?_cons_zero] <;> rfl) (by rfl) (by rfl) ?_
      refine wpQuiet_loadH (by rfl) 74 _ (by rfl) b5 0 (by rfl) (Array.toList (u.arr x)) _ (fun w ⟨z, hz⟩ => hz ▸ blk_range z.ok.2.1) Try.underlying74 rfl Try.infoPeers ?_
      refine wpQuiet_nil ?_
      simp only [Act.put, List.setIfInBounds_toArray, List.set_cons_succ, List.set_cons_zero]
      refine wpV_q (by simp only [List.getElem?_toArray, List.getElem?_cons_succ, List.getElem?_cons_zero] <;> rfl) (by rfl) (by rfl) ?_
      go_big_quiet_step (fail)
      refine wpQuiet_nil ?_
      refine wpV_q (by simp only [List.getElem?_toArray, List.getElem?_cons_succ, List.getElem?_cons_zero] <;> rfl) (by rfl) (by rfl) ?_
      go_big_quiet_step (fail)
      refine wpQuiet_nil ?_
      refine wpV_q (by simp only [List.getElem?_toArray, List.getElem?_cons_succ, List.getElem?_cons_zero] <;> rfl) (by rfl) (by rfl) ?_
      go_big_quiet_step (fail)
      refine wpQuiet_nil ?_
      refine wpV_q (by simp only [List.getElem?_toArray, List.getElem?_cons_succ, List.getElem?_cons_zero] <;> rfl) (by rfl) (by rfl) ?_
      go_big_quiet_step (fail)
      refine wpQuiet_nil ?_
      refine wpV_q (by simp only [List.getElem?_toArray, List.getElem?_cons_succ, List.getElem?_cons_zero] <;> rfl) (by rfl) (by rfl) ?_
      go_big_quiet_step (fail)
      refine wpQuiet_nil ?_
      refine wpV_e (by simp only [List.getElem?_toArray, List.getElem?_cons_succ, List.getElem?_cons_zero] <;> rfl) (by rfl) ?_
      go_wp2_with fail
      refine (CU.out _ _ (ST21.out.enterN (prows u x []) (inC (at_ 0 rfl) (inC (at_ 1 rfl) inN)))).mono ?_
      intro e wq1 hst
      obtain ⟨x', rfl, hst2⟩ := hst
      have ST22 := Lib.hid (show Sta w1 (fun _ => True) (.pointer none) [] [⟨b6, m.rarr y, 77⟩, ⟨b5, u.arr x, 74⟩] [] (prows u' x' (prows u x (prows m y []))) wq1 from ST21.out.leaveN (inC (at_ 0 rfl) (inC (at_ 1 rfl) inN)) hst2)
      clear hst2 ST21
      go_wp2_with fail
      refine ⟨⟨⟨wq1, ⟨ST22.out.blkAt 0 rfl, ST22.out.blkAt 1 rfl, C1.out _ ST22.out.grW⟩⟩, rfl⟩, ?_⟩
      refine wpV_q (by simp only [List.getElem?_toArray, List.getElem?_cons_succ, List.getElem?_cons_zero] <;> rfl) (by rfl) (by rfl) ?_
      refine wpQuiet_loadH (by rfl) 77 _ (by rfl) b6 0 (by rfl) (Array.toList (m.rarr y)) _ (fun w ⟨z, hz⟩ => hz ▸ blk_range z.ok.1) Try.underlying77 rfl Try.infoRPeers ?_
      refine wpQuiet_nil ?_
      simp only [Act.put, List.setIfInBounds_toArray, List.set_cons_succ, List.set_cons_zero]
      refine wpV_q (by simp only [List.getElem?_toArray, List.getElem?_cons_succ, List.getElem?_cons_zero] <;> rfl) (by rfl) (by rfl) ?_
      go_big_quiet_step (fail)
      refine wpQuiet_nil ?_
      refine wpV_q (by simp only [List.getElem?_toArray, List.getElem?_cons_succ, List.getElem?_cons_zero] <;> rfl) (by rfl) (by rfl) ?_
      go_big_quiet_step (fail)
      refine wpQuiet_nil ?_
      refine wpV_q (by simp only [List.getElem?_toArray, List.getElem?_cons_succ, List.getElem?_cons_zero] <;> rfl) (by rfl) (by rfl) ?_
      go_big_quiet_step (fail)
      refine wpQuiet_nil ?_
      refine wpV_q (by simp only [List.getElem?_toArray, List.getElem?_cons_succ, List.getElem?_cons_zero] <;> rfl) (by rfl) (by rfl) ?_
      go_big_quiet_step (fail)
      refine wpQuiet_nil ?_
      refine wpV_q (by simp only [List.getElem?_toArray, List.getElem?_cons_succ, List.getElem?_cons_zero] <;> rfl) (by rfl) (by rfl) ?_
      go_big_quiet_step (fail)
      refine wpQuiet_nil ?_
      refine wpV_e (by simp only [List.getElem?_toArray, List.getElem?_cons_succ, List.getElem?_cons_zero] <;> rfl) (by rfl) ?_
      go_wp2_with fail
      refine (CM.out _ _ (ST22.out.enterN (prows m y []) (inC (at_ 4 rfl) (inC (at_ 5 rfl) inN)))).mono ?_
      intro e wq2 hst
      obtain ⟨y', rfl, hst2⟩ := hst
      have ST23 := Lib.hid (show Sta w1 (fun _ => True) (.pointer none) [] [⟨b6, m.rarr y, 77⟩, ⟨b5, u.arr x, 74⟩] [] (prows m' y' (prows u' x' (prows u x (prows m y [])))) wq2 from ST22.out.leaveN (inC (at_ 4 rfl) (inC (at_ 5 rfl) inN)) hst2)
      clear hst2 ST22
      go_wp2_with fail
      refine ⟨⟨⟨wq2, ⟨ST23.out.blkAt 0 rfl, ST23.out.blkAt 1 rfl, C1.out _ ST23.out.grW⟩⟩, rfl⟩, ?_⟩
      refine wpV_done ?_
      refine tailT_open (fun w' => ∃ z : WC (fun _ => True), w' = z.val) ⟨⟨_, trivial⟩, rfl⟩ ?_
      clear this CU CM qc
      refine wpT_e (by simp only [List.getElem?_toArray, List.getElem?_cons_succ, List.getElem?_cons_zero] <;> rfl) (by rfl) ?_
      refine wpList_storeW (vs := u'.arr x') (ST23.out.blkAt 1 rfl) (by rfl) 74 _ _ (by rfl) (by rfl) (by rfl) rfl Try.infoPeers (by rw [← Array.all_toList]; rfl) ?_
      intro wq3 f_ b_
      have ST24 := Lib.hid (show Sta w1 (fun _ => True) (.pointer none) [] [⟨b6, m.rarr y, 77⟩, ⟨b5, u'.arr x', 74⟩] [] (prows m' y' (prows u' x' (prows u x (prows m y [])))) wq3 from ST23.out.store 1 rfl f_ b_)
      clear ST23 f_ b_
      refine wpList_nil ?_
      refine ⟨⟨⟨wq3, trivial⟩, rfl⟩, ?_⟩
      simp only [Act.put]
      refine wpT_e (by simp only [List.getElem?_toArray, List.getElem?_cons_succ, List.getElem?_cons_zero] <;> rfl) (by rfl) ?_
      refine wpList_storeW (vs := m'.rarr y') (ST24.out.blkAt 0 rfl) (by rfl) 77 _ _ (by rfl) (by rfl) (by rfl) rfl Try.infoRPeers (by rw [← Array.all_toList]; rfl) ?_
      intro wq4 f_ b_
      have ST25 := Lib.hid (show Sta w1 (fun _ => True) (.pointer none) [] [⟨b6, m'.rarr y', 77⟩, ⟨b5, u'.arr x', 74⟩] [] (prows m' y' (prows u' x' (prows u x (prows m y [])))) wq4 from ST24.out.store 0 rfl f_ b_)
      clear ST24 f_ b_
      refine wpList_nil ?_
      refine ⟨⟨⟨wq4, trivial⟩, rfl⟩, ?_⟩
      simp only [Act.put]
      refine wpT_nil ?_
      obtain ⟨v1, hv1⟩ : ∃ v, bits .and .i64 wh 1 = v := ⟨_, rfl⟩
      have c0 := C0.out _ ST25.out.grW
      cases e9 : (v1 == 1)
      case false =>
        go_wp2_with fail
        clear e9 hv1 c0
        go_roundw
        case rel => exact ⟨k + 1, u', x', m', y', by go_num, hlt, HG2.out, HL2.out, ST25.out.less (List.Sublist.refl _) (inC (at_ 2 rfl) (inC (at_ 3 rfl) (inC (at_ 0 rfl) (inC (at_ 1 rfl) inN))))⟩
        case measure => simp [intOf]; omega
      case true =>
        obtain ⟨u3, ca, hu_⟩ : ∃ v c, pePrune u' n = (v, c) := ⟨_, _, rfl⟩
        obtain ⟨m3, cb, hm_⟩ : ∃ v c, rpPrune m' n = (v, c) := ⟨_, _, rfl⟩
        have hg2 := HG2.out.prune n
        have hl2 := HL2.out.prune HG2.out n
        have CP := Lib.hid (fun O w h => peersPrune_any u' x' n O w h HG2.out)
        have CR := Lib.hid (fun O w h => rpPrune_any m' y' n O w h HFEW2.out)
        rw [hu_] at hg2 hl2 CP
        rw [hm_] at hl2 CR
        simp only at hg2 hl2 CP CR
        have HG3 := Lib.hid hg2
        have HL3 := Lib.hid hl2.1
        clear hu_ hm_ hg2 hl2
        go_upto_region 10 with fail
        clear e9 hv1 c0
        obtain ⟨wd, hwd⟩ : ∃ x, x = wq4.drew := ⟨_, rfl⟩
        have HWD := Lib.hid hwd
        have ST26 := Lib.hid (show Sta w1 (fun _ => True) (.pointer none) [] [⟨b6, m'.rarr y', 77⟩, ⟨b5, u'.arr x', 74⟩] [] (prows m' y' (prows u' x' (prows u x (prows m y [])))) wd from hwd ▸ ST25.out.gr ((Fr.refl _ _).drew))
        clear ST25 hwd
        haveI : Nonempty (WC (fun w => w.cell? ⟨bo, oo + k * 2 + 1, none⟩ = some (.int .i64 n))) := ⟨⟨wd, C1.out _ ST26.out.grW⟩⟩
        have qc : ∀ z : WC (fun w => w.cell? ⟨bo, oo + k * 2 + 1, none⟩ = some (.int .i64 n)), z.val.cell? ⟨bo, oo + k * 2 + 1, none⟩ = some (.int .i64 n) := fun z => z.ok
        refine wp_region_plan [0, 6, 10] (Plan.seq [0, 1, 2, 3, 4, 5, 6, 7, 8, 9, 10] .done) (fun w' => ∃ z : WC (fun w => w.cell? ⟨bo, oo + k * 2 + 1, none⟩ = some (.int .i64 n)), w' = z.val) (by kernel_rfl) (by kernel_rfl) (fun c a w d v h => by cases d <;> exact h) (fun c a w d v h => by cases d <;> exact h) (by rw [← HWD.out]; exact ⟨⟨wd, C1.out _ ST26.out.grW⟩, rfl⟩) ?_
        rw [← HWD.out]
        clear HWD
        refine wpV_e (by simp only [List.getElem?_toArray, List.getElem?_cons_zero] <;> rfl) (by rfl) ?_
        refine wpList_load_mid (by rfl) 74 _ (by rfl) b5 0 (by rfl) (Array.toList (u'.arr x')) _ (blk_range (ST26.out.blkAt 1 rfl)) Try.underlying74 rfl Try.infoPeers ?_
        refine wpList_nil ?_
        refine ⟨⟨⟨wd, C1.out _ ST26.out.grW⟩, rfl⟩, ?_⟩
        simp only [Act.put, List.setIfInBounds_toArray, List.set_cons_succ, List.set_cons_zero]
        refine wpV_q (by simp only [List.getElem?_toArray, List.getElem?_cons_succ, List.getElem?_cons_zero] <;> rfl) (by rfl) (by rfl) ?_
        go_big_quiet_step (fail)
        refine wpQuiet_nil ?_
        refine wpV_q (by simp only [List.getElem?_toArray, List.getElem?_cons_succ, List.getElem?_cons_zero] <;> rfl) (by rfl) (by rfl) ?_
        go_big_quiet_step (fail)
        refine wpQuiet_nil ?_
        refine wpV_q (by simp only [List.getElem?_toArray, List.getElem?_cons_succ, List.getElem?_cons_zero] <;> rfl) (by rfl) (by rfl) ?_
        go_big_quiet_step (fail)
        refine wpQuiet_nil ?_
        refine wpV_q (by simp only [List.getElem?_toArray, List.getElem?_cons_succ, List.getElem?_cons_zero] <;> rfl) (by rfl) (by rfl) ?_
        go_big_quiet_step (fail)
        refine wpQuiet_nil ?_
        refine wpV_q (by simp only [List.getElem?_toArray, List.getElem?_cons_succ, List.getElem?_cons_zero] <;> rfl) (by rfl) (by rfl) ?_
        go_big_quiet_step (fail)
        refine wpQuiet_nil ?_
        refine wpV_e (by simp only [List.getElem?_toArray, List.getElem?_cons_succ, List.getElem?_cons_zero] <;> rfl) (by rfl) ?_
        go_wp2_with fail
        refine (CP.out _ _ (ST26.out.enterN (prows u' x' []) (inC (at_ 2 rfl) (inC (at_ 3 rfl) inN)))).mono ?_
        intro e wq5 hst
        obtain ⟨x3, rfl, hst2⟩ := hst
        have ST27 := Lib.hid (show Sta w1 (fun _ => True) (.pointer none) [] [⟨b6, m'.rarr y', 77⟩, ⟨b5, u'.arr x', 74⟩] [] (prows u3 x3 (prows m' y' (prows u' x' (prows u x (prows m y []))))) wq5 from ST26.out.leaveN (inC (at_ 2 rfl) (inC (at_ 3 rfl) inN)) hst2)
        clear hst2 ST26
        go_wp2_with fail
        refine ⟨⟨⟨wq5, C1.out _ ST27.out.grW⟩, rfl⟩, ?_⟩
        refine wpV_q (by simp only [List.getElem?_toArray, List.getElem?_cons_succ, List.getElem?_cons_zero] <;> rfl) (by rfl) (by rfl) ?_
        go_big_quiet_step (fail)
        refine wpQuiet_nil ?_
        refine wpV_q (by simp only [List.getElem?_toArray, List.getElem?_cons_succ, List.getElem?_cons_zero] <;> rfl) (by rfl) (by rfl) ?_
        go_big_quiet_step (fail)
        refine wpQuiet_nil ?_
        refine wpV_q (by simp only [List.getElem?_toArray, List.getElem?_cons_succ, List.getElem?_cons_zero] <;> rfl) (by rfl) (by rfl) ?_
        go_big_quiet_step (fail)
        refine wpQuiet_nil ?_
        refine wpV_e (by simp only [List.getElem?_toArray, List.getElem?_cons_succ, List.getElem?_cons_zero] <;> rfl) (by rfl) ?_
        refine wpList_storeW (vs := u3.arr x3) (ST27.out.blkAt 1 rfl) (by rfl) 74 _ _ (by rfl) (by rfl) (by rfl) rfl Try.infoPeers (by rw [← Array.all_toList]; rfl) ?_
        intro wq6 f_ b_
        have ST28 := Lib.hid (show Sta w1 (fun _ => True) (.pointer none) [] [⟨b6, m'.rarr y', 77⟩, ⟨b5, u3.arr x3, 74⟩] [] (prows u3 x3 (prows m' y' (prows u' x' (prows u x (prows m y []))))) wq6 from ST27.out.store 1 rfl f_ b_)
        clear ST27 f_ b_
        refine wpList_nil ?_
        refine ⟨⟨⟨wq6, C1.out _ ST28.out.grW⟩, rfl⟩, ?_⟩
        simp only [Act.put]
        refine wpV_done ?_
        clear this qc
        go_upto_region 11 with fail
        obtain ⟨wd, hwd⟩ : ∃ x, x = wq6.drew := ⟨_, rfl⟩
        have HWD := Lib.hid hwd
        have ST29 := Lib.hid (show Sta w1 (fun _ => True) (.pointer none) [] [⟨b6, m'.rarr y', 77⟩, ⟨b5, u3.arr x3, 74⟩] [] (prows u3 x3 (prows m' y' (prows u' x' (prows u x (prows m y []))))) wd from hwd ▸ ST28.out.gr ((Fr.refl _ _).drew))
        clear ST28 hwd
        haveI : Nonempty (WC (fun w => w.cell? ⟨bo, oo + k * 2 + 1, none⟩ = some (.int .i64 n))) := ⟨⟨wd, C1.out _ ST29.out.grW⟩⟩
        have qc : ∀ z : WC (fun w => w.cell? ⟨bo, oo + k * 2 + 1, none⟩ = some (.int .i64 n)), z.val.cell? ⟨bo, oo + k * 2 + 1, none⟩ = some (.int .i64 n) := fun z => z.ok
        refine wp_region_plan [0, 6, 10] (Plan.seq [0, 1, 2, 3, 4, 5, 6, 7, 8, 9, 10] .done) (fun w' => ∃ z : WC (fun w => w.cell? ⟨bo, oo + k * 2 + 1, none⟩ = some (.int .i64 n)), w' = z.val) (by kernel_rfl) (by kernel_rfl) (fun c a w d v h => by cases d <;> exact h) (fun c a w d v h => by cases d <;> exact h) (by rw [← HWD.out]; exact ⟨⟨wd, C1.out _ ST29.out.grW⟩, rfl⟩) ?_
        rw [← HWD.out]
        clear HWD
        refine wpV_e (by simp only [List.getElem?_toArray, List.getElem?_cons_zero] <;> rfl) (by rfl) ?_
        refine wpList_load_mid (by rfl) 77 _ (by rfl) b6 0 (by rfl) (Array.toList (m'.rarr y')) _ (blk_range (ST29.out.blkAt 0 rfl)) Try.underlying77 rfl Try.infoRPeers ?_
        refine wpList_nil ?_
        refine ⟨⟨⟨wd, C1.out _ ST29.out.grW⟩, rfl⟩, ?_⟩
        simp only [Act.put, List.setIfInBounds_toArray, List.set_cons_succ, List.set_cons_zero]
        refine wpV_q (by simp only [List.getElem?_toArray, List.getElem?_cons_succ, List.getElem?_cons_zero] <;> rfl) (by rfl) (by rfl) ?_
        go_big_quiet_step (fail)
        refine wpQuiet_nil ?_
        refine wpV_q (by simp only [List.getElem?_toArray, List.getElem?_cons_succ, List.getElem?_cons_zero] <;> rfl) (by rfl) (by rfl) ?_
        go_big_quiet_step (fail)
        refine wpQuiet_nil ?_
        refine wpV_q (by simp only [List.getElem?_toArray, List.getElem?_cons_succ, List.getElem?_cons_zero] <;> rfl) (by rfl) (by rfl) ?_
        go_big_quiet_step (fail)
        refine wpQuiet_nil ?_
        refine wpV_q (by simp only [List.getElem?_toArray, List.getElem?_cons_succ, List.getElem?_cons_zero] <;> rfl) (by rfl) (by rfl) ?_
        go_big_quiet_step (fail)
        refine wpQuiet_nil ?_
        refine wpV_q (by simp only [List.getElem?_toArray, List.getElem?_cons_succ, List.getElem?_cons_zero] <;> rfl) (by rfl) (by rfl) ?_
        go_big_quiet_step (fail)
        refine wpQuiet_nil ?_
        refine wpV_e (by simp only [List.getElem?_toArray, List.getElem?_cons_succ, List.getElem?_cons_zero] <;> rfl) (by rfl) ?_
        go_wp2_with fail
        refine (CR.out _ _ (ST29.out.enterN (prows m' y' []) (inC (at_ 2 rfl) (inC (at_ 3 rfl) inN)))).mono ?_
        intro e wq5 hst
        obtain ⟨y3, rfl, hst2⟩ := hst
        have ST30 := Lib.hid (show Sta w1 (fun _ => True) (.pointer none) [] [⟨b6, m'.rarr y', 77⟩, ⟨b5, u3.arr x3, 74⟩] [] (prows m3 y3 (prows u3 x3 (prows m' y' (prows u' x' (prows u x (prows m y [])))))) wq5 from ST29.out.leaveN (inC (at_ 2 rfl) (inC (at_ 3 rfl) inN)) hst2)
        clear hst2 ST29
        go_wp2_with fail
        refine ⟨⟨⟨wq5, C1.out _ ST30.out.grW⟩, rfl⟩, ?_⟩
        refine wpV_q (by simp only [List.getElem?_toArray, List.getElem?_cons_succ, List.getElem?_cons_zero] <;> rfl) (by rfl) (by rfl) ?_
        go_big_quiet_step (fail)
        refine wpQuiet_nil ?_
        refine wpV_q (by simp only [List.getElem?_toArray, List.getElem?_cons_succ, List.getElem?_cons_zero] <;> rfl) (by rfl) (by rfl) ?_
        go_big_quiet_step (fail)
        refine wpQuiet_nil ?_
        refine wpV_q (by simp only [List.getElem?_toArray, List.getElem?_cons_succ, List.getElem?_cons_zero] <;> rfl) (by rfl) (by rfl) ?_
        go_big_quiet_step (fail)
        refine wpQuiet_nil ?_
        refine wpV_e (by simp only [List.getElem?_toArray, List.getElem?_cons_succ, List.getElem?_cons_zero] <;> rfl) (by rfl) ?_
        refine wpList_storeW (vs := m3.rarr y3) (ST30.out.blkAt 0 rfl) (by rfl) 77 _ _ (by rfl) (by rfl) (by rfl) rfl Try.infoRPeers (by rw [← Array.all_toList]; rfl) ?_
        intro wq6 f_ b_
        have ST31 := Lib.hid (show Sta w1 (fun _ => True) (.pointer none) [] [⟨b6, m3.rarr y3, 77⟩, ⟨b5, u3.arr x3, 74⟩] [] (prows m3 y3 (prows u3 x3 (prows m' y' (prows u' x' (prows u x (prows m y [])))))) wq6 from ST30.out.store 0 rfl f_ b_)
        clear ST30 f_ b_
        refine wpList_nil ?_
        refine ⟨⟨⟨wq6, C1.out _ ST31.out.grW⟩, rfl⟩, ?_⟩
        simp only [Act.put]
        refine wpV_done ?_
        clear this qc
        clear CP CR
        go_wp2_with fail
        go_roundw
        case rel => exact ⟨k + 1, u3, x3, m3, y3, by go_num, hlt, HG3.out, HL3.out, ST31.out.less (List.Sublist.refl _) (inC (at_ 2 rfl) (inC (at_ 3 rfl) (inC (at_ 0 rfl) (inC (at_ 1 rfl) inN))))⟩
        case measure => simp [intOf]; omega
    · go_upto_region 6 with fail
      go_cut [25] from 18 to 24 (fun a wx => a = .bool false ∧ wr = wx)
      case first =>
        by_cases hlt : k < L.length
        · have d1 : decide ((k : Int) < (L.length : Int)) = true := decide_eq_true (by omega)
          have d2 : decide ((k : Int) < 70) = false := decide_eq_false (by omega)
          go_wp2_with fail
          go_meet
          exact ⟨rfl, rfl⟩
        · have d1 : decide ((k : Int) < (L.length : Int)) = false := decide_eq_false (by omega)
          go_wp2_with fail
          go_meet
          exact ⟨rfl, rfl⟩
      case rest =>
        obtain ⟨rfl, rfl⟩ := hcut
        generalize wr = wv at ST20 ⊢
        have HA1 : SlA wv a2 act.length c2 (ints act) := HA.out.keep (Gr.trans F1.out ST20.out.grW) (fun _ _ h => h)
        have ST30 := Lib.hid (ST20.out.addRow (r := ⟨a2, act.length, c2, ints act⟩) HA1 (fun hn q hq => ⟨Nat.lt_of_lt_of_le (HA.out.ltC hn hq) F1.out.size, pn_no _⟩))
        clear ST20 hlk HA1
        go_upto_region 13 with fail
        clear ha1 ha4 ha5 e5
        obtain ⟨q, hq_⟩ : ∃ v, v = peMatch u act := ⟨_, rfl⟩
        obtain ⟨n, hn_⟩ : ∃ v, v = rpMatch m act := ⟨_, rfl⟩
        obtain ⟨nw, hnw⟩ : ∃ l, l = peNew u q := ⟨_, rfl⟩
        have HGQ := Lib.hid (show q.Good by rw [hq_]; exact HG.out.match_ act)
        have HLQ := Lib.hid (show PLike q n by rw [hq_, hn_]; exact HLK.out.match_ HG.out act)
        have hfit : m.Fit := by unfold Pe.Fit; rw [HLK.out.len.1, HLK.out.len.2]; exact HG.out.fit
        have CQ := Lib.hid (fun x O w h => peersMatch_any u x act a2 c2 O w h HG.out)
        have CN := Lib.hid (fun y O w h => rpMatch_any m y act a2 c2 O w h hfit)
        rw [← hq_, ← hnw] at CQ
        rw [← hn_, show peNew m n = nw by rw [hnw]; exact HLK.out.new HLQ.out] at CN
        have CX := Lib.hid (fun x O w h => peersMatch_any q x act a2 c2 O w h HGQ.out)
        rw [show peMatch q act = q by rw [hq_]; exact match_again HG.out act, new_none] at CX
        have HZ := Lib.hid (show ∀ x, has act x = true → has u.z x = true → has q.z x = true by rw [hq_]; exact fun x h1 h2 => match_z HG.out act h1 h2)
        clear hq_ hn_ hnw hfit
        refine wp_region_lit ?_
        refine wpList_load_mid (by rfl) 74 _ (by rfl) b5 0 (by rfl) (Array.toList (u.arr x)) _ (blk_range (ST30.out.blkAt 1 rfl)) Try.underlying74 rfl Try.infoPeers ?_
        go_wp2_with fail
        refine (CQ.out _ _ _ (ST30.out.enterN (prows u x [⟨a2, act.length, c2, ints act⟩]) (inC (at_ 1 rfl) (inC (at_ 2 rfl) (inC (at_ 0 rfl) inN))))).mono ?_
        intro e wm1 hst
        obtain ⟨xq, na, nc, rfl, hst2⟩ := hst
        have ST31 := Lib.hid (show Sta w1 (fun _ => True) (.pointer none) [] [⟨b6, m.rarr y, 77⟩, ⟨b5, u.arr x, 74⟩] [] (prows q xq (⟨na, nw.length, nc, ints nw⟩ :: ⟨a2, act.length, c2, ints act⟩ :: prows u x (prows m y []))) wm1 from ST30.out.leaveN (inC (at_ 1 rfl) (inC (at_ 2 rfl) (inC (at_ 0 rfl) inN))) hst2)
        clear hst2 ST30
        go_wp2_with (refine wpList_fresh (vs := q.arr xq) hp1 hp2 Try.infoPeers (by rfl) (by rw [← Array.all_toList]; rfl) (by rfl) (by rfl) ?_)
        intro wm2 f_ b_ l_
        obtain ⟨b8, hb_⟩ : ∃ b, b = wm1.heap.size := ⟨_, rfl⟩
        rw [← hb_] at b_ l_ ⊢
        have ST32 := Lib.hid (show Sta w1 (fun _ => True) (.pointer none) [] [⟨b8, q.arr xq, 74⟩, ⟨b6, m.rarr y, 77⟩, ⟨b5, u.arr x, 74⟩] [] (prows q xq (⟨na, nw.length, nc, ints nw⟩ :: ⟨a2, act.length, c2, ints act⟩ :: prows u x (prows m y []))) wm2 from ST31.out.var f_ b_ (Nat.le_of_eq hb_.symm))
        clear ST31 f_ b_ l_ hb_
        go_upto_region 14 with fail
        refine wp_region_lit ?_
        refine wpList_load_mid (by rfl) 77 _ (by rfl) b6 0 (by rfl) (Array.toList (m.rarr y)) _ (blk_range (ST32.out.blkAt 1 rfl)) Try.underlying77 rfl Try.infoRPeers ?_
        go_wp2_with fail
        refine (CN.out _ _ _ (ST32.out.enterN (prows m y [⟨a2, act.length, c2, ints act⟩]) (inC (at_ 6 rfl) (inC (at_ 7 rfl) (inC (at_ 3 rfl) inN))))).mono ?_
        intro e wm3 hst
        obtain ⟨yn, ma, mc, rfl, hst2⟩ := hst
        have ST33 := Lib.hid (show Sta w1 (fun _ => True) (.pointer none) [] [⟨b8, q.arr xq, 74⟩, ⟨b6, m.rarr y, 77⟩, ⟨b5, u.arr x, 74⟩] [] (prows n yn (⟨ma, nw.length, mc, ints nw⟩ :: prows q xq (⟨na, nw.length, nc, ints nw⟩ :: ⟨a2, act.length, c2, ints act⟩ :: prows u x (prows m y [])))) wm3 from ST32.out.leaveN (inC (at_ 6 rfl) (inC (at_ 7 rfl) (inC (at_ 3 rfl) inN))) hst2)
        clear hst2 ST32
        go_wp2_with (refine wpList_fresh (vs := n.rarr yn) hr1 hr2 Try.infoRPeers (by rfl) (by rw [← Array.all_toList]; rfl) (by rfl) (by rfl) ?_)
        intro wm4 f_ b_ l_
        obtain ⟨b10, hb_⟩ : ∃ b, b = wm3.heap.size := ⟨_, rfl⟩
        rw [← hb_] at b_ l_ ⊢
        have ST34 := Lib.hid (show Sta w1 (fun _ => True) (.pointer none) [] [⟨b10, n.rarr yn, 77⟩, ⟨b8, q.arr xq, 74⟩, ⟨b6, m.rarr y, 77⟩, ⟨b5, u.arr x, 74⟩] [] (prows n yn (⟨ma, nw.length, mc, ints nw⟩ :: prows q xq (⟨na, nw.length, nc, ints nw⟩ :: ⟨a2, act.length, c2, ints act⟩ :: prows u x (prows m y [])))) wm4 from ST33.out.var f_ b_ (Nat.le_of_eq hb_.symm))
        clear ST33 f_ b_ l_ hb_
        clear CQ CN
        go_upto_region 15 with fail
        have p0 : wm4.cell? ⟨b8, 0, none⟩ = some (.slice xq.ea q.e.length xq.ec) := ST34.out.cell 1 0 rfl rfl
        have p1 : wm4.cell? ⟨b8, 1, none⟩ = some (.int .i64 64) := ST34.out.cell 1 1 rfl rfl
        have p2 : wm4.cell? ⟨b8, 2, none⟩ = some (.slice xq.za q.z.length xq.zc) := ST34.out.cell 1 2 rfl rfl
        have p3 : wm4.cell? ⟨b8, 3, none⟩ = some (.int .i64 64) := ST34.out.cell 1 3 rfl rfl
        have q0 : wm4.cell? ⟨b10, 0, none⟩ = some (.slice yn.ea n.e.length yn.ec) := ST34.out.cell 0 0 rfl rfl
        have q1 : wm4.cell? ⟨b10, 1, none⟩ = some (.slice yn.za n.z.length yn.zc) := ST34.out.cell 0 1 rfl rfl
        go_wp2_with fail
        refine (psSame_any q n xq yn _ _ (ST34.out.enterN (prows q xq (prows n yn [])) (inC (at_ 3 rfl) (inC (at_ 4 rfl) (inC (at_ 0 rfl) (inC (at_ 1 rfl) inN))))) HLQ.out HGQ.out).mono ?_
        rintro e wm5 ⟨rfl, f_⟩
        clear p0 p1 p2 p3 q0 q1
        have ST35 := Lib.hid (show Sta w1 (fun _ => True) (.pointer none) [] [⟨b10, n.rarr yn, 77⟩, ⟨b8, q.arr xq, 74⟩, ⟨b6, m.rarr y, 77⟩, ⟨b5, u.arr x, 74⟩] [] (prows n yn (⟨ma, nw.length, mc, ints nw⟩ :: prows q xq (⟨na, nw.length, nc, ints nw⟩ :: ⟨a2, act.length, c2, ints act⟩ :: prows u x (prows m y [])))) wm5 from ST34.out.gr f_)
        clear ST34 f_
        go_wp2_with fail
        refine (refSame_any na nc nw ma mc nw _ (ST35.out.rowAt 5 rfl) (ST35.out.rowAt 2 rfl)).mono ?_
        rintro e wm6 ⟨rfl, q20, hq20⟩
        rw [(same_iff nw nw).2 rfl]
        have f_ : Gr wm5 wm6 := by rw [hq20]; exact (Fr.refl _ _).drewN q20
        clear hq20
        have ST36 := Lib.hid (show Sta w1 (fun _ => True) (.pointer none) [] [⟨b10, n.rarr yn, 77⟩, ⟨b8, q.arr xq, 74⟩, ⟨b6, m.rarr y, 77⟩, ⟨b5, u.arr x, 74⟩] [] (prows n yn (⟨ma, nw.length, mc, ints nw⟩ :: prows q xq (⟨na, nw.length, nc, ints nw⟩ :: ⟨a2, act.length, c2, ints act⟩ :: prows u x (prows m y [])))) wm6 from ST35.out.gr f_)
        clear ST35 f_
        have p0 : wm6.cell? ⟨b5, 0, none⟩ = some (.slice x.ea u.e.length x.ec) := ST36.out.cell 3 0 rfl rfl
        have p1 : wm6.cell? ⟨b5, 1, none⟩ = some (.int .i64 64) := ST36.out.cell 3 1 rfl rfl
        have p2 : wm6.cell? ⟨b5, 2, none⟩ = some (.slice x.za u.z.length x.zc) := ST36.out.cell 3 2 rfl rfl
        have p3 : wm6.cell? ⟨b5, 3, none⟩ = some (.int .i64 64) := ST36.out.cell 3 3 rfl rfl
        have q0 : wm6.cell? ⟨b6, 0, none⟩ = some (.slice y.ea m.e.length y.ec) := ST36.out.cell 2 0 rfl rfl
        have q1 : wm6.cell? ⟨b6, 1, none⟩ = some (.slice y.za m.z.length y.zc) := ST36.out.cell 2 1 rfl rfl
        go_wp2_with fail
        refine (psSame_any u m x y _ _ (ST36.out.enterN (prows u x (prows m y [])) (inC (at_ 7 rfl) (inC (at_ 8 rfl) (inC (at_ 9 rfl) (inC (at_ 10 rfl) inN))))) HLK.out HG.out).mono ?_
        rintro e wm7 ⟨rfl, f_⟩
        clear p0 p1 p2 p3 q0 q1
        have ST37 := Lib.hid (show Sta w1 (fun _ => True) (.pointer none) [] [⟨b10, n.rarr yn, 77⟩, ⟨b8, q.arr xq, 74⟩, ⟨b6, m.rarr y, 77⟩, ⟨b5, u.arr x, 74⟩] [] (prows n yn (⟨ma, nw.length, mc, ints nw⟩ :: prows q xq (⟨na, nw.length, nc, ints nw⟩ :: ⟨a2, act.length, c2, ints act⟩ :: prows u x (prows m y [])))) wm7 from ST36.out.gr f_)
        clear ST36 f_
        go_upto_region 17 with fail
        have l1 := (ST37.out.rowAt 6 rfl).le
        have l2 := (ST37.out.rowAt 6 rfl).max
        go_wp2_with fail
        go_loopw [12] (fun iv wr2 => ∃ k2 : Nat, iv = .int .i64 k2 ∧ k2 ≤ act.length ∧ Gr wm7 wr2) (fun iv _ => act.length - (intOf iv).toNat)
        case atStart => exact ⟨0, rfl, Nat.zero_le _, Fr.refl _ _⟩
        case round =>
          obtain ⟨k2, rfl, hk2, hgr⟩ := hrel
          have GJ := Lib.hid hgr
          clear hgr
          by_cases hlt2 : k2 < act.length
          · have ST50 := Lib.hid (ST37.out.gr GJ.out)
            clear ST37
            have HKK := Lib.hid (List.getElem?_eq_getElem hlt2)
            obtain ⟨bl, ol, rfl, hc⟩ := (ST50.out.rowAt 6 rfl).int k2 hlt2
            have HN := Lib.hid (HZ.out act[k2] ((has_iff _ _).2 (List.getElem_mem hlt2)))
            generalize act[k2] = v at HKK hc HN
            have HC := Lib.hid hc
            clear hc
            have C1 := Lib.hid (fun w (f : Gr wr w) => setHas_any x.za x.zc u.z 64 v w ((ST50.out.gr f).rowAt 8 rfl) HG.out.z)
            have C2 := Lib.hid (fun w (f : Gr wr w) => setHas_any xq.za xq.zc q.z 64 v w ((ST50.out.gr f).rowAt 4 rfl) HGQ.out.z)
            obtain ⟨ca, hca⟩ : ∃ c, c = has u.z v := ⟨_, rfl⟩
            obtain ⟨cb, hcb⟩ : ∃ c, c = has q.z v := ⟨_, rfl⟩
            rw [← hca] at C1 HN
            rw [← hcb] at C2 HN
            clear hca hcb
            go_upto_region 20 with fail
            cases ca
            · haveI : Nonempty (WC (Gr wr)) := ⟨⟨wr, Fr.refl _ _⟩⟩
              have z0 : ∀ z2 : WC (Gr wr), z2.val.cell? ⟨b5, 2, none⟩ = some (.slice x.za u.z.length x.zc) := fun z2 => z2.ok.cell (ST50.out.cell 3 2 rfl rfl) (fun h => h)
              have z1 : ∀ z2 : WC (Gr wr), z2.val.cell? ⟨b5, 3, none⟩ = some (.int .i64 64) := fun z2 => z2.ok.cell (ST50.out.cell 3 3 rfl rfl) (fun h => h)
              have z2 : ∀ z2 : WC (Gr wr), z2.val.cell? ⟨b8, 2, none⟩ = some (.slice xq.za q.z.length xq.zc) := fun z2 => z2.ok.cell (ST50.out.cell 1 2 rfl rfl) (fun h => h)
              have z3 : ∀ z2 : WC (Gr wr), z2.val.cell? ⟨b8, 3, none⟩ = some (.int .i64 64) := fun z2 => z2.ok.cell (ST50.out.cell 1 3 rfl rfl) (fun h => h)
              have zc : ∀ z2 : WC (Gr wr), z2.val.cell? ⟨bl, ol + k2, none⟩ = some (.int .i64 v) := fun z2 => z2.ok.cell (HC.out) (fun h => h)
              refine wp_region_plan [6, 14] (Plan.seq [0, 1, 2, 3, 4, 5, 6, 7, 8, 9, 10, 11, 12, 13, 14, 15, 16] .done) (fun w' => ∃ z' : WC (Gr wr), w' = z'.val) (by kernel_rfl) (by kernel_rfl) (fun c a w d v h => by cases d <;> exact h) (fun c a w d v h => by cases d <;> exact h) ⟨⟨wr.drew, (Fr.refl _ _).drew⟩, rfl⟩ ?_
              simp only [Plan.seq, List.foldr]
              refine wpV_q (by simp only [List.getElem?_toArray, List.getElem?_cons_zero] <;> rfl) (by rfl) (by rfl) ?_
              go_big_quiet_step (fail)
              refine wpQuiet_nil ?_
              repeat (refine wpV_q (by simp only [List.getElem?_toArray, List.getElem?_cons_succ, List.getElem?_cons_zero] <;> rfl) (by rfl) (by rfl) ?_; go_big_quiet_step (fail); refine wpQuiet_nil ?_)
              refine wpV_e (by simp only [List.getElem?_toArray, List.getElem?_cons_succ, List.getElem?_cons_zero] <;> rfl) (by rfl) ?_
              go_wp2_with fail
              refine (C1.out _ (show Gr wr wr.drew from (Fr.refl _ _).drew)).mono ?_
              rintro e w7 ⟨rfl, f2⟩
              have Fw7 : Gr wr w7 := Gr.trans (show Gr wr wr.drew from (Fr.refl _ _).drew) f2
              go_wp2_with fail
              refine ⟨⟨⟨w7, Fw7⟩, rfl⟩, ?_⟩
              repeat (refine wpV_q (by simp only [List.getElem?_toArray, List.getElem?_cons_succ, List.getElem?_cons_zero] <;> rfl) (by rfl) (by rfl) ?_; go_big_quiet_step (fail); refine wpQuiet_nil ?_)
              refine wpV_e (by simp only [List.getElem?_toArray, List.getElem?_cons_succ, List.getElem?_cons_zero] <;> rfl) (by rfl) ?_
              go_wp2_with fail
              refine ⟨⟨⟨w7, Fw7⟩, rfl⟩, ?_⟩
              repeat (refine wpV_q (by simp only [List.getElem?_toArray, List.getElem?_cons_succ, List.getElem?_cons_zero] <;> rfl) (by rfl) (by rfl) ?_; go_big_quiet_step (fail); refine wpQuiet_nil ?_)
              clear f2
              refine wpV_done ?_
              have FZ := Lib.hid Fw7
              clear this z0 z1 z2 z3 zc
              go_wp2_with fail
              go_roundw
              case rel => exact ⟨k2 + 1, by go_num, hlt2, Gr.trans GJ.out FZ.out⟩
              case measure => simp [intOf]; omega
            · obtain rfl : cb = true := HN.out rfl
              haveI : Nonempty (WC (Gr wr)) := ⟨⟨wr, Fr.refl _ _⟩⟩
              have z0 : ∀ z2 : WC (Gr wr), z2.val.cell? ⟨b5, 2, none⟩ = some (.slice x.za u.z.length x.zc) := fun z2 => z2.ok.cell (ST50.out.cell 3 2 rfl rfl) (fun h => h)
              have z1 : ∀ z2 : WC (Gr wr), z2.val.cell? ⟨b5, 3, none⟩ = some (.int .i64 64) := fun z2 => z2.ok.cell (ST50.out.cell 3 3 rfl rfl) (fun h => h)
              have z2 : ∀ z2 : WC (Gr wr), z2.val.cell? ⟨b8, 2, none⟩ = some (.slice xq.za q.z.length xq.zc) := fun z2 => z2.ok.cell (ST50.out.cell 1 2 rfl rfl) (fun h => h)
              have z3 : ∀ z2 : WC (Gr wr), z2.val.cell? ⟨b8, 3, none⟩ = some (.int .i64 64) := fun z2 => z2.ok.cell (ST50.out.cell 1 3 rfl rfl) (fun h => h)
              have zc : ∀ z2 : WC (Gr wr), z2.val.cell? ⟨bl, ol + k2, none⟩ = some (.int .i64 v) := fun z2 => z2.ok.cell (HC.out) (fun h => h)
              refine wp_region_plan [6, 14] (Plan.seq [0, 1, 2, 3, 4, 5, 6, 7, 8, 9, 10, 11, 12, 13, 14, 15, 16] .done) (fun w' => ∃ z' : WC (Gr wr), w' = z'.val) (by kernel_rfl) (by kernel_rfl) (fun c a w d v h => by cases d <;> exact h) (fun c a w d v h => by cases d <;> exact h) ⟨⟨wr.drew, (Fr.refl _ _).drew⟩, rfl⟩ ?_
              simp only [Plan.seq, List.foldr]
              refine wpV_q (by simp only [List.getElem?_toArray, List.getElem?_cons_zero] <;> rfl) (by rfl) (by rfl) ?_
              go_big_quiet_step (fail)
              refine wpQuiet_nil ?_
              repeat (refine wpV_q (by simp only [List.getElem?_toArray, List.getElem?_cons_succ, List.getElem?_cons_zero] <;> rfl) (by rfl) (by rfl) ?_; go_big_quiet_step (fail); refine wpQuiet_nil ?_)
              refine wpV_e (by simp only [List.getElem?_toArray, List.getElem?_cons_succ, List.getElem?_cons_zero] <;> rfl) (by rfl) ?_
              go_wp2_with fail
              refine (C1.out _ (show Gr wr wr.drew from (Fr.refl _ _).drew)).mono ?_
              rintro e w7 ⟨rfl, f2⟩
              have Fw7 : Gr wr w7 := Gr.trans (show Gr wr wr.drew from (Fr.refl _ _).drew) f2
              go_wp2_with fail
              refine ⟨⟨⟨w7, Fw7⟩, rfl⟩, ?_⟩
              repeat (refine wpV_q (by simp only [List.getElem?_toArray, List.getElem?_cons_succ, List.getElem?_cons_zero] <;> rfl) (by rfl) (by rfl) ?_; go_big_quiet_step (fail); refine wpQuiet_nil ?_)
              refine wpV_e (by simp only [List.getElem?_toArray, List.getElem?_cons_succ, List.getElem?_cons_zero] <;> rfl) (by rfl) ?_
              go_wp2_with fail
              refine (C2.out _ Fw7).mono ?_
              rintro e w8 ⟨rfl, f3⟩
              have Fw8 : Gr wr w8 := Gr.trans Fw7 f3
              go_wp2_with fail
              refine ⟨⟨⟨w8, Fw8⟩, rfl⟩, ?_⟩
              repeat (refine wpV_q (by simp only [List.getElem?_toArray, List.getElem?_cons_succ, List.getElem?_cons_zero] <;> rfl) (by rfl) (by rfl) ?_; go_big_quiet_step (fail); refine wpQuiet_nil ?_)
              clear f2 f3
              refine wpV_done ?_
              have FZ := Lib.hid Fw8
              clear this z0 z1 z2 z3 zc
              go_wp2_with fail
              go_roundw
              case rel => exact ⟨k2 + 1, by go_num, hlt2, Gr.trans GJ.out FZ.out⟩
              case measure => simp [intOf]; omega
          · have hkk : k2 = act.length := by omega
            subst hkk
            have ST60 := Lib.hid (ST37.out.gr GJ.out)
            clear ST37 GJ
            generalize wr = wz at ST60 ⊢
            go_upto_region 22 with fail
            refine wp_region_lit ?_
            refine wpList_load_mid (by rfl) 74 _ (by rfl) b8 0 (by rfl) (Array.toList (q.arr xq)) _ (blk_range (ST60.out.blkAt 1 rfl)) Try.underlying74 rfl Try.infoPeers ?_
            go_wp2_with fail
            refine (CX.out _ _ _ (ST60.out.enterN (prows q xq [⟨a2, act.length, c2, ints act⟩]) (inC (at_ 3 rfl) (inC (at_ 4 rfl) (inC (at_ 6 rfl) inN))))).mono ?_
            intro e wy1 hst
            obtain ⟨xz, za, zc, rfl, hst2⟩ := hst
            have ST61 := Lib.hid (show Sta w1 (fun _ => True) (.pointer none) [] [⟨b10, n.rarr yn, 77⟩, ⟨b8, q.arr xq, 74⟩, ⟨b6, m.rarr y, 77⟩, ⟨b5, u.arr x, 74⟩] [] (prows q xz (⟨za, ([] : List Int).length, zc, ints ([] : List Int)⟩ :: prows n yn (⟨ma, nw.length, mc, ints nw⟩ :: prows q xq (⟨na, nw.length, nc, ints nw⟩ :: ⟨a2, act.length, c2, ints act⟩ :: prows u x (prows m y []))))) wy1 from ST60.out.leaveN (inC (at_ 3 rfl) (inC (at_ 4 rfl) (inC (at_ 6 rfl) inN))) hst2)
            clear hst2 ST60
            go_wp2_with (refine wpList_fresh (vs := q.arr xz) hp1 hp2 Try.infoPeers (by rfl) (by rw [← Array.all_toList]; rfl) (by rfl) (by rfl) ?_)
            intro wy2 f_ b_ l_
            obtain ⟨b13, hb_⟩ : ∃ b, b = wy1.heap.size := ⟨_, rfl⟩
            rw [← hb_] at b_ l_ ⊢
            have ST62 := Lib.hid (show Sta w1 (fun _ => True) (.pointer none) [] [⟨b13, q.arr xz, 74⟩, ⟨b10, n.rarr yn, 77⟩, ⟨b8, q.arr xq, 74⟩, ⟨b6, m.rarr y, 77⟩, ⟨b5, u.arr x, 74⟩] [] (prows q xz (⟨za, ([] : List Int).length, zc, ints ([] : List Int)⟩ :: prows n yn (⟨ma, nw.length, mc, ints nw⟩ :: prows q xq (⟨na, nw.length, nc, ints nw⟩ :: ⟨a2, act.length, c2, ints act⟩ :: prows u x (prows m y []))))) wy2 from ST61.out.var f_ b_ (Nat.le_of_eq hb_.symm))
            clear ST61 f_ b_ l_ hb_
            go_wp2_with fail
            go_ret
            exact ⟨rfl, Gr.trans F1.out ST62.out.grW⟩
end Go.Proofs.Ytelepohdfcjnfaa
