/-
  The walk of PeersTurns (printed by gen_pturns.py).
-/
import Derived.Test.YtelepohdfcjnfaaZPeLaw
import Derived.Test.YtelepohdfcjnfaaZRegionT
import Derived.Deep.CutRange
import Derived.Deep.CutBlock
namespace Go.Proofs.Ytelepohdfcjnfaa
open Go.RowKit Go.Proofs

set_option maxHeartbeats 16000000 in
set_option maxRecDepth 100000 in
theorem peersTurns_walk (a1 : Option Addr) (c1 : Nat) (L : List Int) (n0 : Int) (W : World) (h1 : SlA W a1 L.length c1 (L.map (Value.int .u16))) (hL : ∀ x ∈ L, 0 ≤ x ∧ x ≤ 65535) (hn : 0 ≤ n0 ∧ n0 ≤ 65535) :
    Calls Try.prog 6 #[.slice a1 L.length c1, .int .u16 n0] W fun e w' => e = .returned (.bool true) ∧ Gr W w' := by
  obtain ⟨ip, hp1, hp2, hp3⟩ := info_pair Try.zeroPeers
  obtain ⟨hn1, hn2⟩ := hn
  have HL := Lib.hid h1
  have HLB := Lib.hid hL
  have e1 := h1.le
  have e2 := h1.max
  have S0 := Lib.hid (speaks17_any W)
  obtain ⟨u0, h0⟩ : ∃ u : Pe, u = ⟨[], []⟩ := ⟨_, rfl⟩
  have CN := Lib.hid (fun w => (h0 ▸ peersNew_any w : Calls Try.prog 26 #[] w fun e w' => e = .returned (.agg (u0.arr peNoP)) ∧ Gr w w'))
  have HI0 := Lib.hid (show u0.Good by rw [h0]; exact pe_none)
  have H0 := Lib.hid h0
  clear h1 h0 hL
  go_enter Try.func6, Try.ntmps6
  go_wp2_with fail
  refine S0.out.mono ?_
  rintro e w1 ⟨rfl, f1⟩
  have F1 := Lib.hid f1
  clear f1 S0
  go_wp2_with fail
  refine (CN.out _).mono ?_
  rintro e w2 ⟨rfl, f2⟩
  have ST1 := Lib.hid (show Sta w1 (fun _ => True) (.pointer none) [] [] [] (prows u0 peNoP []) w2 from ((Sta.initR (W := w1) (R := []) (fun _ h => nomatch h)).gr f2).addNil (r := ⟨none, u0.z.length, 0, ints u0.z⟩) (by rw [H0.out]; rfl) (by rw [H0.out]; decide) (Nat.zero_le _) |>.addNil (r := ⟨none, u0.e.length, 0, ints u0.e⟩) (by rw [H0.out]; rfl) (by rw [H0.out]; decide) (Nat.zero_le _))
  clear f2 CN
  go_wp2_with (refine wpList_fresh (vs := u0.arr peNoP) hp1 hp2 Try.infoPeers (by rfl) (by rw [← Array.all_toList]; rfl) (by rfl) (by rfl) ?_)
  intro w3 f_ b_ l_
  obtain ⟨b5, hb_⟩ : ∃ b, b = w2.heap.size := ⟨_, rfl⟩
  rw [← hb_] at b_ l_ ⊢
  have ST2 := Lib.hid (show Sta w1 (fun _ => True) (.pointer none) [] [⟨b5, u0.arr peNoP, 74⟩] [] (prows u0 peNoP []) w3 from ST1.out.var f_ b_ (Nat.le_of_eq hb_.symm))
  clear ST1 f_ b_ l_ hb_
  clear H0
  go_wp2_with fail
  go_loopw [6] (fun iv wr => ∃ (k : Nat) (u : Pe) (x : PeP), iv = .int .i64 k ∧ k ≤ L.length ∧ u.Good ∧ Sta w1 (fun _ => True) (.pointer none) [] [⟨b5, u.arr x, 74⟩] [] (prows u x []) wr) (fun iv _ => L.length - (intOf iv).toNat)
  case atStart => exact ⟨0, u0, peNoP, rfl, Nat.zero_le _, HI0.out, ST2.out⟩
  case round =>
    obtain ⟨k, u, x, rfl, hk, hg, hst⟩ := hrel
    clear ST2 HI0
    have ST20 := Lib.hid hst
    have HG := Lib.hid hg
    clear hst hg
    by_cases hlk : k < L.length ∧ k < 80
    · have d1 : decide ((k : Int) < (L.length : Int)) = true := decide_eq_true (by omega)
      have d2 : decide ((k : Int) < 80) = true := decide_eq_true (by omega)
      have hlt := hlk.1
      clear hlk
      have HLr := Lib.hid (HL.out.keep F1.out (fun _ _ h => h))
      have hb := HLB.out L[k] (List.getElem_mem hlt)
      have hcl : (L.map (Value.int .u16))[k]? = some (.int .u16 L[k]) := by rw [List.getElem?_map, List.getElem?_eq_getElem hlt]; rfl
      obtain ⟨bo, oo, rfl, hel⟩ := HLr.out.cell k _ hcl
      clear HLr hcl
      generalize L[k] = v at hel hb
      have C0 := Lib.hid (fun w (f : Gr w1 w) => show w.cell? ⟨bo, oo + k, none⟩ = some (.int .u16 v) from f.cell hel (fun h => h))
      clear hel
      obtain ⟨hb1, hb2⟩ := hb
      go_upto_region 7 with fail
      clear d1 d2
      obtain ⟨u', hu_⟩ : ∃ w, w = peUp u (1 + v / 2 % 65535) := ⟨_, rfl⟩
      have HG2 := Lib.hid (show u'.Good by rw [hu_]; exact HG.out.up _)
      have CU := Lib.hid (fun O w h => (hu_ ▸ peersUp_any u x (1 + v / 2 % 65535) O w h HG.out : Calls Try.prog _ _ w (PEnd w O u' (fun a => .agg a))))
      clear hu_
      obtain ⟨wd, hwd⟩ : ∃ x, x = wr.drew := ⟨_, rfl⟩
      have HWD := Lib.hid hwd
      have ST21 := Lib.hid (show Sta w1 (fun _ => True) (.pointer none) [] [⟨b5, u.arr x, 74⟩] [] (prows u x []) wd from hwd ▸ ST20.out.gr ((Fr.refl _ _).drew))
      clear ST20 hwd
      haveI : Nonempty (WC (fun w => w.heap[b5]? = some (.cells (u.arr x) 74 (0, 0)) ∧ w.cell? ⟨bo, oo + k, none⟩ = some (.int .u16 v))) := ⟨⟨wd, ⟨ST21.out.blkAt 0 rfl, C0.out _ ST21.out.grW⟩⟩⟩
      have qc : ∀ z : WC (fun w => w.heap[b5]? = some (.cells (u.arr x) 74 (0, 0)) ∧ w.cell? ⟨bo, oo + k, none⟩ = some (.int .u16 v)), z.val.cell? ⟨bo, oo + k, none⟩ = some (.int .u16 v) := fun z => z.ok.2
      refine wp_region_lastO 10 [9] [] [0, 1, 2, 3, 4, 5, 6, 7, 8, 9] (fun w' => ∃ z : WC (fun w => w.heap[b5]? = some (.cells (u.arr x) 74 (0, 0)) ∧ w.cell? ⟨bo, oo + k, none⟩ = some (.int .u16 v)), w' = z.val) (by kernel_rfl) (by kernel_rfl) (fun c a w d v h => by cases d <;> exact h) (fun c a w d v h => by cases d <;> exact h) (by rw [← HWD.out]; exact ⟨⟨wd, ⟨ST21.out.blkAt 0 rfl, C0.out _ ST21.out.grW⟩⟩, rfl⟩) ?_
      rw [← HWD.out]
      clear HWD
      simp only [List.take]
      refine wpT_q (by simp only [List.getElem?_toArray, List.getElem?_cons_zero] <;> rfl) (by rfl) (by rfl) ?_
      refine wpQuiet_loadH (by rfl) 74 _ (by rfl) b5 0 (by rfl) (Array.toList (u.arr x)) _ (fun w ⟨z, hz⟩ => hz ▸ blk_range z.ok.1) Try.underlying74 rfl Try.infoPeers ?_
      refine wpQuiet_nil ?_
      simp only [Act.put, List.setIfInBounds_toArray, List.set_cons_succ, List.set_cons_zero]
      refine wpT_q (by simp only [List.getElem?_toArray, List.getElem?_cons_succ, List.getElem?_cons_zero] <;> rfl) (by rfl) (by rfl) ?_
      go_big_quiet_step (fail)
      refine wpQuiet_nil ?_
      refine wpT_q (by simp only [List.getElem?_toArray, List.getElem?_cons_succ, List.getElem?_cons_zero] <;> rfl) (by rfl) (by rfl) ?_
      go_big_quiet_step (fail)
      refine wpQuiet_nil ?_
      refine wpT_q (by simp only [List.getElem?_toArray, List.getElem?_cons_succ, List.getElem?_cons_zero] <;> rfl) (by rfl) (by rfl) ?_
      go_big_quiet_step (fail)
      refine wpQuiet_nil ?_
      refine wpT_q (by simp only [List.getElem?_toArray, List.getElem?_cons_succ, List.getElem?_cons_zero] <;> rfl) (by rfl) (by rfl) ?_
      go_big_quiet_step (fail)
      refine wpQuiet_nil ?_
      refine wpT_q (by simp only [List.getElem?_toArray, List.getElem?_cons_succ, List.getElem?_cons_zero] <;> rfl) (by rfl) (by rfl) ?_
      go_big_quiet_step (fail)
      refine wpQuiet_nil ?_
      refine wpT_q (by simp only [List.getElem?_toArray, List.getElem?_cons_succ, List.getElem?_cons_zero] <;> rfl) (by rfl) (by rfl) ?_
      go_big_quiet_step (fail)
      refine wpQuiet_nil ?_
      refine wpT_q (by simp only [List.getElem?_toArray, List.getElem?_cons_succ, List.getElem?_cons_zero] <;> rfl) (by rfl) (by rfl) ?_
      go_big_quiet_step (fail)
      refine wpQuiet_nil ?_
      refine wpT_q (by simp only [List.getElem?_toArray, List.getElem?_cons_succ, List.getElem?_cons_zero] <;> rfl) (by rfl) (by rfl) ?_
      go_big_quiet_step (fail)
      refine wpQuiet_nil ?_
      refine wpT_e (by simp only [List.getElem?_toArray, List.getElem?_cons_succ, List.getElem?_cons_zero] <;> rfl) (by rfl) ?_
      go_wp2_with fail
      refine (CU.out _ _ (ST21.out.enterN (prows u x []) (inC (at_ 0 rfl) (inC (at_ 1 rfl) inN)))).mono ?_
      intro e wq1 hst
      obtain ⟨x', rfl, hst2⟩ := hst
      have ST22 := Lib.hid (show Sta w1 (fun _ => True) (.pointer none) [] [⟨b5, u.arr x, 74⟩] [] (prows u' x' (prows u x [])) wq1 from ST21.out.leaveN (inC (at_ 0 rfl) (inC (at_ 1 rfl) inN)) hst2)
      clear hst2 ST21
      go_wp2_with fail
      refine ⟨⟨⟨wq1, ⟨ST22.out.blkAt 0 rfl, C0.out _ ST22.out.grW⟩⟩, rfl⟩, ?_⟩
      clear this qc CU
      refine wpT_nil ?_
      simp only [lastQ, List.drop]
      go_wp2_with (refine wpList_storeW (vs := u'.arr x') (ST22.out.blkAt 0 rfl) (by rfl) 74 _ _ (by rfl) (by rfl) (by rfl) rfl Try.infoPeers (by rw [← Array.all_toList]; rfl) ?_)
      intro wq2 f_ b_
      have ST23 := Lib.hid (show Sta w1 (fun _ => True) (.pointer none) [] [⟨b5, u'.arr x', 74⟩] [] (prows u' x' (prows u x [])) wq2 from ST22.out.store 0 rfl f_ b_)
      clear ST22 f_ b_
      obtain ⟨v1, hv1⟩ : ∃ z, bits .and .u16 v 1 = z := ⟨_, rfl⟩
      have c0 := C0.out _ ST23.out.grW
      cases e9 : (v1 == 1)
      case false =>
        go_wp2_with fail
        clear e9 hv1 c0
        go_roundw
        case rel => exact ⟨k + 1, u', x', by go_num, hlt, HG2.out, ST23.out.less (List.Sublist.refl _) (inC (at_ 0 rfl) (inC (at_ 1 rfl) inN))⟩
        case measure => simp [intOf]; omega
      case true =>
        obtain ⟨u3, ca, hu_⟩ : ∃ w c, pePrune u' (1 + v / 2 % 65535) = (w, c) := ⟨_, _, rfl⟩
        have hg2 := HG2.out.prune (1 + v / 2 % 65535)
        have CP := Lib.hid (fun O w h => peersPrune_any u' x' (1 + v / 2 % 65535) O w h HG2.out)
        rw [hu_] at hg2 CP
        simp only at hg2 CP
        have HG3 := Lib.hid hg2
        clear hu_ hg2
        go_upto_region 9 with fail
        clear e9 hv1 c0
        obtain ⟨wd, hwd⟩ : ∃ x, x = wq2.drew := ⟨_, rfl⟩
        have HWD := Lib.hid hwd
        have ST24 := Lib.hid (show Sta w1 (fun _ => True) (.pointer none) [] [⟨b5, u'.arr x', 74⟩] [] (prows u' x' (prows u x [])) wd from hwd ▸ ST23.out.gr ((Fr.refl _ _).drew))
        clear ST23 hwd
        haveI : Nonempty (WC (fun w => w.cell? ⟨bo, oo + k, none⟩ = some (.int .u16 v))) := ⟨⟨wd, C0.out _ ST24.out.grW⟩⟩
        have qc : ∀ z : WC (fun w => w.cell? ⟨bo, oo + k, none⟩ = some (.int .u16 v)), z.val.cell? ⟨bo, oo + k, none⟩ = some (.int .u16 v) := fun z => z.ok
        refine wp_region_plan [0, 9, 13] (Plan.seq [0, 1, 2, 3, 4, 5, 6, 7, 8, 9, 10, 11, 12, 13] .done) (fun w' => ∃ z : WC (fun w => w.cell? ⟨bo, oo + k, none⟩ = some (.int .u16 v)), w' = z.val) (by kernel_rfl) (by kernel_rfl) (fun c a w d v h => by cases d <;> exact h) (fun c a w d v h => by cases d <;> exact h) (by rw [← HWD.out]; exact ⟨⟨wd, C0.out _ ST24.out.grW⟩, rfl⟩) ?_
        rw [← HWD.out]
        clear HWD
        refine wpV_e (by simp only [List.getElem?_toArray, List.getElem?_cons_zero] <;> rfl) (by rfl) ?_
        refine wpList_load_mid (by rfl) 74 _ (by rfl) b5 0 (by rfl) (Array.toList (u'.arr x')) _ (blk_range (ST24.out.blkAt 0 rfl)) Try.underlying74 rfl Try.infoPeers ?_
        refine wpList_nil ?_
        refine ⟨⟨⟨wd, C0.out _ ST24.out.grW⟩, rfl⟩, ?_⟩
        simp only [Act.put, List.setIfInBounds_toArray, List.set_cons_succ, List.set_cons_zero]
        refine wpV_q (by simp only [List.getElem?_toArray, List.getElem?_cons_succ, List.getElem?_cons_zero] <;> rfl) (by rfl) (by rfl) ?_
        go_big_quiet_step (fail)
        refine wpQuiet_nil ?_
        refine wpV_q (by simp only [List.getElem?_toArray, List.getElem?_cons_succ, List.getElem?_cons_zero] <;> rfl) (by rfl) (by rfl) ?_
        go_big_quiet_step (fail)
        refine wpQuiet_nil ?_
        refine wpV_q (by simp only [List.getElem?_toArray, List.getElem?_cons_succ, List.getElem?_cons_zero] <;> rfl) (by rfl) (by rfl) ?_
        go_big_quiet_step (fail)
        refine wpQuiet_nil ?_
        refine wpV_q (by simp only [List.getElem?_toArray, List.getElem?_cons_succ, List.getElem?_cons_zero] <;> rfl) (by rfl) (by rfl) ?_
        go_big_quiet_step (fail)
        refine wpQuiet_nil ?_
        refine wpV_q (by simp only [List.getElem?_toArray, List.getElem?_cons_succ, List.getElem?_cons_zero] <;> rfl) (by rfl) (by rfl) ?_
        go_big_quiet_step (fail)
        refine wpQuiet_nil ?_
        refine wpV_q (by simp only [List.getElem?_toArray, List.getElem?_cons_succ, List.getElem?_cons_zero] <;> rfl) (by rfl) (by rfl) ?_
        go_big_quiet_step (fail)
        refine wpQuiet_nil ?_
        refine wpV_q (by simp only [List.getElem?_toArray, List.getElem?_cons_succ, List.getElem?_cons_zero] <;> rfl) (by rfl) (by rfl) ?_
        go_big_quiet_step (fail)
        refine wpQuiet_nil ?_
        refine wpV_q (by simp only [List.getElem?_toArray, List.getElem?_cons_succ, List.getElem?_cons_zero] <;> rfl) (by rfl) (by rfl) ?_
        go_big_quiet_step (fail)
        refine wpQuiet_nil ?_
        refine wpV_e (by simp only [List.getElem?_toArray, List.getElem?_cons_succ, List.getElem?_cons_zero] <;> rfl) (by rfl) ?_
        go_wp2_with fail
        refine (CP.out _ _ (ST24.out.enterN (prows u' x' []) (inC (at_ 0 rfl) (inC (at_ 1 rfl) inN)))).mono ?_
        intro e wq5 hst
        obtain ⟨x3, rfl, hst2⟩ := hst
        have ST25 := Lib.hid (show Sta w1 (fun _ => True) (.pointer none) [] [⟨b5, u'.arr x', 74⟩] [] (prows u3 x3 (prows u' x' (prows u x []))) wq5 from ST24.out.leaveN (inC (at_ 0 rfl) (inC (at_ 1 rfl) inN)) hst2)
        clear hst2 ST24
        go_wp2_with fail
        refine ⟨⟨⟨wq5, C0.out _ ST25.out.grW⟩, rfl⟩, ?_⟩
        refine wpV_q (by simp only [List.getElem?_toArray, List.getElem?_cons_succ, List.getElem?_cons_zero] <;> rfl) (by rfl) (by rfl) ?_
        go_big_quiet_step (fail)
        refine wpQuiet_nil ?_
        refine wpV_q (by simp only [List.getElem?_toArray, List.getElem?_cons_succ, List.getElem?_cons_zero] <;> rfl) (by rfl) (by rfl) ?_
        go_big_quiet_step (fail)
        refine wpQuiet_nil ?_
        refine wpV_q (by simp only [List.getElem?_toArray, List.getElem?_cons_succ, List.getElem?_cons_zero] <;> rfl) (by rfl) (by rfl) ?_
        go_big_quiet_step (fail)
        refine wpQuiet_nil ?_
        refine wpV_e (by simp only [List.getElem?_toArray, List.getElem?_cons_succ, List.getElem?_cons_zero] <;> rfl) (by rfl) ?_
        refine wpList_storeW (vs := u3.arr x3) (ST25.out.blkAt 0 rfl) (by rfl) 74 _ _ (by rfl) (by rfl) (by rfl) rfl Try.infoPeers (by rw [← Array.all_toList]; rfl) ?_
        intro wq6 f_ b_
        have ST26 := Lib.hid (show Sta w1 (fun _ => True) (.pointer none) [] [⟨b5, u3.arr x3, 74⟩] [] (prows u3 x3 (prows u' x' (prows u x []))) wq6 from ST25.out.store 0 rfl f_ b_)
        clear ST25 f_ b_
        refine wpList_nil ?_
        refine ⟨⟨⟨wq6, C0.out _ ST26.out.grW⟩, rfl⟩, ?_⟩
        simp only [Act.put]
        refine wpV_done ?_
        clear this qc
        clear CP
        go_wp2_with fail
        go_roundw
        case rel => exact ⟨k + 1, u3, x3, by go_num, hlt, HG3.out, ST26.out.less (List.Sublist.refl _) (inC (at_ 0 rfl) (inC (at_ 1 rfl) inN))⟩
        case measure => simp [intOf]; omega
    · go_upto_region 5 with fail
      go_cut [26] from 19 to 25 (fun a wx => a = .bool false ∧ wr = wx)
      case first =>
        by_cases hlt : k < L.length
        · have d1 : decide ((k : Int) < (L.length : Int)) = true := decide_eq_true (by omega)
          have d2 : decide ((k : Int) < 80) = false := decide_eq_false (by omega)
          go_wp2_with fail
          go_meet
          exact ⟨rfl, rfl⟩
        · have d1 : decide ((k : Int) < (L.length : Int)) = false := decide_eq_false (by omega)
          go_wp2_with fail
          go_meet
          exact ⟨rfl, rfl⟩
      case rest =>
        obtain ⟨rfl, rfl⟩ := hcut
        generalize wr = wv at ST20 ⊢
        have ST30 := Lib.hid ST20.out
        clear ST20 hlk
        go_upto_region 11 with fail
        have hk1 : 1 ≤ 1 + n0 % 65535 := by omega
        have hk2 : 1 + n0 % 65535 ≤ 65535 := by omega
        generalize 1 + n0 % 65535 = K at hk1 hk2 ⊢
        have HK1 := Lib.hid hk1
        have HK2 := Lib.hid hk2
        clear hk1 hk2 hn1 hn2
        obtain ⟨he, hhe⟩ : ∃ b, b = has u.e K := ⟨_, rfl⟩
        obtain ⟨c, hc⟩ : ∃ b, b = peHas u K := ⟨_, rfl⟩
        have hpt := prune_then HG.out K
        rw [← hhe, ← hc] at hpt
        obtain ⟨hp1_, hp2_, hp3_⟩ := hpt
        obtain ⟨q, ca, hu_⟩ : ∃ v c, pePrune u K = (v, c) := ⟨_, _, rfl⟩
        have hgq := HG.out.prune K
        have CQ := Lib.hid (fun x O w h => peersPrune_any u x K O w h HG.out)
        rw [hu_] at hgq CQ hp1_ hp2_ hp3_
        simp only at hgq CQ hp1_ hp2_ hp3_
        obtain rfl : he = ca := hp1_.symm
        have HGQ := Lib.hid hgq
        obtain ⟨r, hr_⟩ : ∃ v, v = peGraft q K := ⟨_, rfl⟩
        have HGR := Lib.hid (show r.Good by rw [hr_]; exact HGQ.out.graft K)
        have CR := Lib.hid (fun x O w h => peersGraft_any q x K O w h HGQ.out)
        rw [graft_has hgq, hp2_, ← hr_] at CR
        rw [← hr_] at hp3_
        have HP3 := Lib.hid hp3_
        have HHE := Lib.hid hhe
        have HC := Lib.hid hc
        clear hhe hc hu_ hgq hr_ hp3_ hp2_
        refine wp_region_lit ?_
        refine wpList_load_mid (by rfl) 74 _ (by rfl) b5 0 (by rfl) (Array.toList (u.arr x)) _ (blk_range (ST30.out.blkAt 0 rfl)) Try.underlying74 rfl Try.infoPeers ?_
        go_wp2_with fail
        refine (CQ.out _ _ _ (ST30.out.enterN (prows u x []) (inC (at_ 0 rfl) (inC (at_ 1 rfl) inN)))).mono ?_
        intro e wm1 hst
        obtain ⟨xq, rfl, hst2⟩ := hst
        have ST31 := Lib.hid (show Sta w1 (fun _ => True) (.pointer none) [] [⟨b5, u.arr x, 74⟩] [] (prows q xq (prows u x [])) wm1 from ST30.out.leaveN (inC (at_ 0 rfl) (inC (at_ 1 rfl) inN)) hst2)
        clear hst2 ST30
        go_wp2_with (refine wpList_fresh (vs := q.arr xq) hp1 hp2 Try.infoPeers (by rfl) (by rw [← Array.all_toList]; rfl) (by rfl) (by rfl) ?_)
        intro wm2 f_ b_ l_
        obtain ⟨b8, hb_⟩ : ∃ b, b = wm1.heap.size := ⟨_, rfl⟩
        rw [← hb_] at b_ l_ ⊢
        have ST32 := Lib.hid (show Sta w1 (fun _ => True) (.pointer none) [] [⟨b8, q.arr xq, 74⟩, ⟨b5, u.arr x, 74⟩] [] (prows q xq (prows u x [])) wm2 from ST31.out.var f_ b_ (Nat.le_of_eq hb_.symm))
        clear ST31 f_ b_ l_ hb_
        go_upto_region 12 with fail
        refine wp_region_lit ?_
        refine wpList_load_mid (by rfl) 74 _ (by rfl) b8 0 (by rfl) (Array.toList (q.arr xq)) _ (blk_range (ST32.out.blkAt 0 rfl)) Try.underlying74 rfl Try.infoPeers ?_
        go_wp2_with fail
        refine (CR.out _ _ _ (ST32.out.enterN (prows q xq []) (inC (at_ 0 rfl) (inC (at_ 1 rfl) inN)))).mono ?_
        intro e wm3 hst
        obtain ⟨xr, rfl, hst2⟩ := hst
        have ST33 := Lib.hid (show Sta w1 (fun _ => True) (.pointer none) [] [⟨b8, q.arr xq, 74⟩, ⟨b5, u.arr x, 74⟩] [] (prows r xr (prows q xq (prows u x []))) wm3 from ST32.out.leaveN (inC (at_ 0 rfl) (inC (at_ 1 rfl) inN)) hst2)
        clear hst2 ST32
        go_wp2_with (refine wpList_fresh (vs := r.arr xr) hp1 hp2 Try.infoPeers (by rfl) (by rw [← Array.all_toList]; rfl) (by rfl) (by rfl) ?_)
        intro wm4 f_ b_ l_
        obtain ⟨b10, hb_⟩ : ∃ b, b = wm3.heap.size := ⟨_, rfl⟩
        rw [← hb_] at b_ l_ ⊢
        have ST34 := Lib.hid (show Sta w1 (fun _ => True) (.pointer none) [] [⟨b10, r.arr xr, 74⟩, ⟨b8, q.arr xq, 74⟩, ⟨b5, u.arr x, 74⟩] [] (prows r xr (prows q xq (prows u x []))) wm4 from ST33.out.var f_ b_ (Nat.le_of_eq hb_.symm))
        clear ST33 f_ b_ l_ hb_
        clear CQ CR
        have CE := Lib.hid (fun w (f : Gr wm4 w) => setHas_any x.ea x.ec u.e 64 K w ((ST34.out.gr f).rowAt 4 rfl) HG.out.e)
        have CZ := Lib.hid (fun w (f : Gr wm4 w) => setHas_any x.za x.zc u.z 64 K w ((ST34.out.gr f).rowAt 5 rfl) HG.out.z)
        have DE := Lib.hid (fun w (f : Gr wm4 w) => setHas_any xr.ea xr.ec r.e 64 K w ((ST34.out.gr f).rowAt 0 rfl) HGR.out.e)
        have DZ := Lib.hid (fun w (f : Gr wm4 w) => setHas_any xq.za xq.zc q.z 64 K w ((ST34.out.gr f).rowAt 3 rfl) HGQ.out.z)
        rw [← HHE.out] at CE
        obtain ⟨hz, hhz⟩ : ∃ b, b = has u.z K := ⟨_, rfl⟩
        rw [← hhz] at CZ
        have HCC := Lib.hid (show c = (he || hz) by rw [HC.out, HHE.out, hhz]; rfl)
        clear hhz
        go_upto_region 13 with fail
        go_cut [12] from 74 to 83 (fun a wx => a = .bool c ∧ Gr wm4 wx)
        case first =>
          have p0 : wm4.cell? ⟨b5, 0, none⟩ = some (.slice x.ea u.e.length x.ec) := ST34.out.cell 2 0 rfl rfl
          have p1 : wm4.cell? ⟨b5, 1, none⟩ = some (.int .i64 64) := ST34.out.cell 2 1 rfl rfl
          have p2 : wm4.cell? ⟨b5, 2, none⟩ = some (.slice x.za u.z.length x.zc) := ST34.out.cell 2 2 rfl rfl
          have p3 : wm4.cell? ⟨b5, 3, none⟩ = some (.int .i64 64) := ST34.out.cell 2 3 rfl rfl
          go_wp2_with fail
          refine (CE.out _ (Fr.refl _ _)).mono ?_
          rintro e wn1 ⟨rfl, f_⟩
          clear p0 p1 p2 p3
          have F5 := Lib.hid f_
          have ST35 := Lib.hid (show Sta w1 (fun _ => True) (.pointer none) [] [⟨b10, r.arr xr, 74⟩, ⟨b8, q.arr xq, 74⟩, ⟨b5, u.arr x, 74⟩] [] (prows r xr (prows q xq (prows u x []))) wn1 from ST34.out.gr f_)
          clear ST34 f_
          cases he
          case true =>
            obtain rfl : c = true := by rw [HCC.out]; rfl
            go_wp2_with fail
            go_meet
            exact ⟨rfl, F5.out⟩
          case false =>
            have p0 : wn1.cell? ⟨b5, 0, none⟩ = some (.slice x.ea u.e.length x.ec) := ST35.out.cell 2 0 rfl rfl
            have p1 : wn1.cell? ⟨b5, 1, none⟩ = some (.int .i64 64) := ST35.out.cell 2 1 rfl rfl
            have p2 : wn1.cell? ⟨b5, 2, none⟩ = some (.slice x.za u.z.length x.zc) := ST35.out.cell 2 2 rfl rfl
            have p3 : wn1.cell? ⟨b5, 3, none⟩ = some (.int .i64 64) := ST35.out.cell 2 3 rfl rfl
            go_wp2_with fail
            refine (CZ.out _ F5.out).mono ?_
            rintro e wn2 ⟨rfl, f_⟩
            clear p0 p1 p2 p3
            have F6 := Lib.hid (Gr.trans F5.out f_)
            clear f_
            obtain rfl : c = hz := by rw [HCC.out]; rfl
            go_wp2_with fail
            go_meet
            exact ⟨rfl, F6.out⟩
        case rest =>
          obtain ⟨rfl, f9⟩ := hcut
          generalize wc = wn at f9 ⊢
          have FN := Lib.hid f9
          have ST35 := Lib.hid (show Sta w1 (fun _ => True) (.pointer none) [] [⟨b10, r.arr xr, 74⟩, ⟨b8, q.arr xq, 74⟩, ⟨b5, u.arr x, 74⟩] [] (prows r xr (prows q xq (prows u x []))) wn from ST34.out.gr f9)
          clear ST34 f9
          clear HCC CZ
          go_upto_region 14 with fail
          go_cut [111] from 84 to 110 (fun a wx => a = .bool false ∧ Gr wn wx)
          case first =>
            have p0 : wn.cell? ⟨b5, 0, none⟩ = some (.slice x.ea u.e.length x.ec) := ST35.out.cell 2 0 rfl rfl
            have p1 : wn.cell? ⟨b5, 1, none⟩ = some (.int .i64 64) := ST35.out.cell 2 1 rfl rfl
            have p2 : wn.cell? ⟨b5, 2, none⟩ = some (.slice x.za u.z.length x.zc) := ST35.out.cell 2 2 rfl rfl
            have p3 : wn.cell? ⟨b5, 3, none⟩ = some (.int .i64 64) := ST35.out.cell 2 3 rfl rfl
            go_wp2_with fail
            refine (CE.out _ FN.out).mono ?_
            rintro e wn1 ⟨rfl, f_⟩
            clear p0 p1 p2 p3
            have F5 := Lib.hid f_
            have ST36 := Lib.hid (show Sta w1 (fun _ => True) (.pointer none) [] [⟨b10, r.arr xr, 74⟩, ⟨b8, q.arr xq, 74⟩, ⟨b5, u.arr x, 74⟩] [] (prows r xr (prows q xq (prows u x []))) wn1 from ST35.out.gr f_)
            clear ST35 f_
            cases c
            case false =>
              go_wp2_with fail
              go_meet
              exact ⟨rfl, F5.out⟩
            case true =>
              have hq := HP3.out rfl
              rw [hq.1] at DE
              rw [hq.2] at DZ
              clear hq
              have p0 : wn1.cell? ⟨b10, 0, none⟩ = some (.slice xr.ea r.e.length xr.ec) := ST36.out.cell 0 0 rfl rfl
              have p1 : wn1.cell? ⟨b10, 1, none⟩ = some (.int .i64 64) := ST36.out.cell 0 1 rfl rfl
              have p2 : wn1.cell? ⟨b10, 2, none⟩ = some (.slice xr.za r.z.length xr.zc) := ST36.out.cell 0 2 rfl rfl
              have p3 : wn1.cell? ⟨b10, 3, none⟩ = some (.int .i64 64) := ST36.out.cell 0 3 rfl rfl
              go_wp2_with fail
              refine (DE.out _ (Gr.trans FN.out F5.out)).mono ?_
              rintro e wn2 ⟨rfl, f_⟩
              clear p0 p1 p2 p3
              have F6 := Lib.hid (Gr.trans F5.out f_)
              have ST37 := Lib.hid (show Sta w1 (fun _ => True) (.pointer none) [] [⟨b10, r.arr xr, 74⟩, ⟨b8, q.arr xq, 74⟩, ⟨b5, u.arr x, 74⟩] [] (prows r xr (prows q xq (prows u x []))) wn2 from ST36.out.gr f_)
              clear ST36 f_
              have p0 : wn2.cell? ⟨b8, 0, none⟩ = some (.slice xq.ea q.e.length xq.ec) := ST37.out.cell 1 0 rfl rfl
              have p1 : wn2.cell? ⟨b8, 1, none⟩ = some (.int .i64 64) := ST37.out.cell 1 1 rfl rfl
              have p2 : wn2.cell? ⟨b8, 2, none⟩ = some (.slice xq.za q.z.length xq.zc) := ST37.out.cell 1 2 rfl rfl
              have p3 : wn2.cell? ⟨b8, 3, none⟩ = some (.int .i64 64) := ST37.out.cell 1 3 rfl rfl
              go_wp2_with fail
              refine (DZ.out _ (Gr.trans FN.out F6.out)).mono ?_
              rintro e wn3 ⟨rfl, f_⟩
              clear p0 p1 p2 p3
              have F7 := Lib.hid (Gr.trans F6.out f_)
              clear f_
              go_wp2_with fail
              go_meet
              exact ⟨rfl, F7.out⟩
          case rest =>
            obtain ⟨rfl, f9⟩ := hcut
            generalize wc = wo at f9 ⊢
            have ST36 := Lib.hid (show Sta w1 (fun _ => True) (.pointer none) [] [⟨b10, r.arr xr, 74⟩, ⟨b8, q.arr xq, 74⟩, ⟨b5, u.arr x, 74⟩] [] (prows r xr (prows q xq (prows u x []))) wo from ST35.out.gr f9)
            clear ST35 f9
            clear CE DE DZ FN HP3 HHE
            go_upto_region 16 with fail
            refine wp_region_lit ?_
            refine wpList_load_mid (by rfl) 74 _ (by rfl) b5 0 (by rfl) (Array.toList (u.arr x)) _ (blk_range (ST36.out.blkAt 2 rfl)) Try.underlying74 rfl Try.infoPeers ?_
            go_wp2_with fail
            refine (peersAll_any u x _ _ (ST36.out.enterN (prows u x []) (inC (at_ 4 rfl) (inC (at_ 5 rfl) inN))) HG.out).mono ?_
            rintro e wp1 ⟨v3, rfl, ho_, hb_⟩
            have ST37 := Lib.hid (show Sta w1 (fun _ => True) (.pointer none) [] [⟨b10, r.arr xr, 74⟩, ⟨b8, q.arr xq, 74⟩, ⟨b5, u.arr x, 74⟩] [⟨3, 1, v3, (peAll u).length, ints (peAll u)⟩] (prows r xr (prows q xq (prows u x []))) wp1 from ST36.out.ownIn (Gr.of_below hb_) ho_)
            clear ho_ hb_ ST36
            obtain ⟨la, lc, rfl, hst⟩ := ST37.out.asRow 0 rfl
            obtain ⟨l, hl⟩ : ∃ l, l = peAll u := ⟨_, rfl⟩
            have HLL := Lib.hid hl
            have ST38 := Lib.hid (show Sta w1 (fun _ => True) (.pointer none) [] [⟨b10, r.arr xr, 74⟩, ⟨b8, q.arr xq, 74⟩, ⟨b5, u.arr x, 74⟩] [] (⟨la, l.length, lc, ints l⟩ :: prows r xr (prows q xq (prows u x []))) wp1 from hl ▸ hst)
            rw [← hl]
            clear hst hl ST37
            have l1 := (ST38.out.rowAt 0 rfl).le
            have l2 := (ST38.out.rowAt 0 rfl).max
            go_wp2_with fail
            go_loopw [14] (fun iv wr2 => ∃ k2 : Nat, iv = .int .i64 k2 ∧ k2 ≤ l.length ∧ Gr wp1 wr2) (fun iv _ => l.length - (intOf iv).toNat)
            case atStart => exact ⟨0, rfl, Nat.zero_le _, Fr.refl _ _⟩
            case round =>
              obtain ⟨k2, rfl, hk2, hgr⟩ := hrel
              have GJ := Lib.hid hgr
              clear hgr
              by_cases hlt2 : k2 < l.length
              · have ST50 := Lib.hid (ST38.out.gr GJ.out)
                clear ST38
                obtain ⟨bl, ol, rfl, hc⟩ := (ST50.out.rowAt 0 rfl).int k2 hlt2
                have HN := Lib.hid (all_one HG.out (show l[k2] ∈ peAll u by rw [← HLL.out]; exact List.getElem_mem hlt2))
                generalize l[k2] = v at hc HN
                have HC1 := Lib.hid hc
                clear hc
                have C1 := Lib.hid (fun w (f : Gr wr w) => setHas_any x.ea x.ec u.e 64 v w ((ST50.out.gr f).rowAt 5 rfl) HG.out.e)
                have C2 := Lib.hid (fun w (f : Gr wr w) => setHas_any x.za x.zc u.z 64 v w ((ST50.out.gr f).rowAt 6 rfl) HG.out.z)
                obtain ⟨cb, hcb⟩ : ∃ c, c = has u.z v := ⟨_, rfl⟩
                rw [HN.out, ← hcb] at C1
                rw [← hcb] at C2
                clear hcb HN
                go_upto_region 20 with fail
                cases cb
                case false =>
                  haveI : Nonempty (WC (Gr wr)) := ⟨⟨wr, Fr.refl _ _⟩⟩
                  have z0 : ∀ z2 : WC (Gr wr), z2.val.cell? ⟨b5, 0, none⟩ = some (.slice x.ea u.e.length x.ec) := fun z2 => z2.ok.cell (ST50.out.cell 2 0 rfl rfl) (fun h => h)
                  have z1 : ∀ z2 : WC (Gr wr), z2.val.cell? ⟨b5, 1, none⟩ = some (.int .i64 64) := fun z2 => z2.ok.cell (ST50.out.cell 2 1 rfl rfl) (fun h => h)
                  have z2 : ∀ z2 : WC (Gr wr), z2.val.cell? ⟨b5, 2, none⟩ = some (.slice x.za u.z.length x.zc) := fun z2 => z2.ok.cell (ST50.out.cell 2 2 rfl rfl) (fun h => h)
                  have z3 : ∀ z2 : WC (Gr wr), z2.val.cell? ⟨b5, 3, none⟩ = some (.int .i64 64) := fun z2 => z2.ok.cell (ST50.out.cell 2 3 rfl rfl) (fun h => h)
                  have zc : ∀ z2 : WC (Gr wr), z2.val.cell? ⟨bl, ol + k2, none⟩ = some (.int .i64 v) := fun z2 => z2.ok.cell (HC1.out) (fun h => h)
                  refine wp_region_plan [6, 13] (Plan.seq [0, 1, 2, 3, 4, 5, 6, 7, 8, 9, 10, 11, 12, 13, 14] .done) (fun w' => ∃ z' : WC (Gr wr), w' = z'.val) (by kernel_rfl) (by kernel_rfl) (fun c a w d v h => by cases d <;> exact h) (fun c a w d v h => by cases d <;> exact h) ⟨⟨wr.drew, (Fr.refl _ _).drew⟩, rfl⟩ ?_
                  simp only [Plan.seq, List.foldr]
                  refine wpV_q (by simp only [List.getElem?_toArray, List.getElem?_cons_zero] <;> rfl) (by rfl) (by rfl) ?_
                  go_big_quiet_step (fail)
                  refine wpQuiet_nil ?_
                  repeat (refine wpV_q (by simp only [List.getElem?_toArray, List.getElem?_cons_succ, List.getElem?_cons_zero] <;> rfl) (by rfl) (by rfl) ?_; go_big_quiet_step (fail); refine wpQuiet_nil ?_)
                  refine wpV_e (by simp only [List.getElem?_toArray, List.getElem?_cons_succ, List.getElem?_cons_zero] <;> rfl) (by rfl) ?_
                  go_wp2_with fail
                  refine (C1.out _ (show Gr wr wr.drew from (Fr.refl _ _).drew)).mono ?_
                  rintro e w7 ⟨rfl, f2⟩
                  have Fw7 : Gr wr w7 := Gr.trans (show Gr wr wr.drew from (Fr.refl _ _).drew) f2
                  go_wp2_with fail
                  refine ⟨⟨⟨w7, Fw7⟩, rfl⟩, ?_⟩
                  repeat (refine wpV_q (by simp only [List.getElem?_toArray, List.getElem?_cons_succ, List.getElem?_cons_zero] <;> rfl) (by rfl) (by rfl) ?_; go_big_quiet_step (fail); refine wpQuiet_nil ?_)
                  refine wpV_e (by simp only [List.getElem?_toArray, List.getElem?_cons_succ, List.getElem?_cons_zero] <;> rfl) (by rfl) ?_
                  go_wp2_with fail
                  refine (C2.out _ Fw7).mono ?_
                  rintro e w8 ⟨rfl, f3⟩
                  have Fw8 : Gr wr w8 := Gr.trans Fw7 f3
                  go_wp2_with fail
                  refine ⟨⟨⟨w8, Fw8⟩, rfl⟩, ?_⟩
                  repeat (refine wpV_q (by simp only [List.getElem?_toArray, List.getElem?_cons_succ, List.getElem?_cons_zero] <;> rfl) (by rfl) (by rfl) ?_; go_big_quiet_step (fail); refine wpQuiet_nil ?_)
                  clear f2 f3
                  refine wpV_done ?_
                  have FZ := Lib.hid Fw8
                  clear this z0 z1 z2 z3 zc
                  go_wp2_with fail
                  go_roundw
                  case rel => exact ⟨k2 + 1, by go_num, hlt2, Gr.trans GJ.out FZ.out⟩
                  case measure => simp [intOf]; omega
                case true =>
                  haveI : Nonempty (WC (Gr wr)) := ⟨⟨wr, Fr.refl _ _⟩⟩
                  have z0 : ∀ z2 : WC (Gr wr), z2.val.cell? ⟨b5, 0, none⟩ = some (.slice x.ea u.e.length x.ec) := fun z2 => z2.ok.cell (ST50.out.cell 2 0 rfl rfl) (fun h => h)
                  have z1 : ∀ z2 : WC (Gr wr), z2.val.cell? ⟨b5, 1, none⟩ = some (.int .i64 64) := fun z2 => z2.ok.cell (ST50.out.cell 2 1 rfl rfl) (fun h => h)
                  have z2 : ∀ z2 : WC (Gr wr), z2.val.cell? ⟨b5, 2, none⟩ = some (.slice x.za u.z.length x.zc) := fun z2 => z2.ok.cell (ST50.out.cell 2 2 rfl rfl) (fun h => h)
                  have z3 : ∀ z2 : WC (Gr wr), z2.val.cell? ⟨b5, 3, none⟩ = some (.int .i64 64) := fun z2 => z2.ok.cell (ST50.out.cell 2 3 rfl rfl) (fun h => h)
                  have zc : ∀ z2 : WC (Gr wr), z2.val.cell? ⟨bl, ol + k2, none⟩ = some (.int .i64 v) := fun z2 => z2.ok.cell (HC1.out) (fun h => h)
                  refine wp_region_plan [6, 13] (Plan.seq [0, 1, 2, 3, 4, 5, 6, 7, 8, 9, 10, 11, 12, 13, 14] .done) (fun w' => ∃ z' : WC (Gr wr), w' = z'.val) (by kernel_rfl) (by kernel_rfl) (fun c a w d v h => by cases d <;> exact h) (fun c a w d v h => by cases d <;> exact h) ⟨⟨wr.drew, (Fr.refl _ _).drew⟩, rfl⟩ ?_
                  simp only [Plan.seq, List.foldr]
                  refine wpV_q (by simp only [List.getElem?_toArray, List.getElem?_cons_zero] <;> rfl) (by rfl) (by rfl) ?_
                  go_big_quiet_step (fail)
                  refine wpQuiet_nil ?_
                  repeat (refine wpV_q (by simp only [List.getElem?_toArray, List.getElem?_cons_succ, List.getElem?_cons_zero] <;> rfl) (by rfl) (by rfl) ?_; go_big_quiet_step (fail); refine wpQuiet_nil ?_)
                  refine wpV_e (by simp only [List.getElem?_toArray, List.getElem?_cons_succ, List.getElem?_cons_zero] <;> rfl) (by rfl) ?_
                  go_wp2_with fail
                  refine (C1.out _ (show Gr wr wr.drew from (Fr.refl _ _).drew)).mono ?_
                  rintro e w7 ⟨rfl, f2⟩
                  have Fw7 : Gr wr w7 := Gr.trans (show Gr wr wr.drew from (Fr.refl _ _).drew) f2
                  go_wp2_with fail
                  refine ⟨⟨⟨w7, Fw7⟩, rfl⟩, ?_⟩
                  repeat (refine wpV_q (by simp only [List.getElem?_toArray, List.getElem?_cons_succ, List.getElem?_cons_zero] <;> rfl) (by rfl) (by rfl) ?_; go_big_quiet_step (fail); refine wpQuiet_nil ?_)
                  refine wpV_e (by simp only [List.getElem?_toArray, List.getElem?_cons_succ, List.getElem?_cons_zero] <;> rfl) (by rfl) ?_
                  go_wp2_with fail
                  refine (C2.out _ Fw7).mono ?_
                  rintro e w8 ⟨rfl, f3⟩
                  have Fw8 : Gr wr w8 := Gr.trans Fw7 f3
                  go_wp2_with fail
                  refine ⟨⟨⟨w8, Fw8⟩, rfl⟩, ?_⟩
                  repeat (refine wpV_q (by simp only [List.getElem?_toArray, List.getElem?_cons_succ, List.getElem?_cons_zero] <;> rfl) (by rfl) (by rfl) ?_; go_big_quiet_step (fail); refine wpQuiet_nil ?_)
                  clear f2 f3
                  refine wpV_done ?_
                  have FZ := Lib.hid Fw8
                  clear this z0 z1 z2 z3 zc
                  go_wp2_with fail
                  go_roundw
                  case rel => exact ⟨k2 + 1, by go_num, hlt2, Gr.trans GJ.out FZ.out⟩
                  case measure => simp [intOf]; omega
              · have hkk : k2 = l.length := by omega
                subst hkk
                have ST60 := Lib.hid (ST38.out.gr GJ.out)
                clear ST38 GJ
                generalize wr = wz at ST60 ⊢
                obtain ⟨u5, hu5⟩ : ∃ w, w = peUp u K := ⟨_, rfl⟩
                have HG5 := Lib.hid (show u5.Good by rw [hu5]; exact HG.out.up K)
                have CU := Lib.hid (fun x O w h => (hu5 ▸ peersUp_any u x K O w h HG.out : Calls Try.prog _ _ w (PEnd w O u5 (fun a => .agg a))))
                have HT := Lib.hid (turn_up HG.out HK1.out HK2.out)
                rw [← hu5, ← HC.out, ← HLL.out] at HT
                clear hu5
                go_upto_region 22 with fail
                refine wp_region_lit ?_
                refine wpList_load_mid (by rfl) 74 _ (by rfl) b5 0 (by rfl) (Array.toList (u.arr x)) _ (blk_range (ST60.out.blkAt 2 rfl)) Try.underlying74 rfl Try.infoPeers ?_
                go_wp2_with fail
                refine (CU.out _ _ _ (ST60.out.enterN (prows u x []) (inC (at_ 5 rfl) (inC (at_ 6 rfl) inN)))).mono ?_
                intro e wy1 hst
                obtain ⟨x5, rfl, hst2⟩ := hst
                have ST61 := Lib.hid (show Sta w1 (fun _ => True) (.pointer none) [] [⟨b10, r.arr xr, 74⟩, ⟨b8, q.arr xq, 74⟩, ⟨b5, u.arr x, 74⟩] [] (prows u5 x5 (⟨la, l.length, lc, ints l⟩ :: prows r xr (prows q xq (prows u x [])))) wy1 from ST60.out.leaveN (inC (at_ 5 rfl) (inC (at_ 6 rfl) inN)) hst2)
                clear hst2 ST60
                go_wp2_with (refine wpList_fresh (vs := u5.arr x5) hp1 hp2 Try.infoPeers (by rfl) (by rw [← Array.all_toList]; rfl) (by rfl) (by rfl) ?_)
                intro wy2 f_ b_ l_
                obtain ⟨b15, hb_⟩ : ∃ b, b = wy1.heap.size := ⟨_, rfl⟩
                rw [← hb_] at b_ l_ ⊢
                have ST62 := Lib.hid (show Sta w1 (fun _ => True) (.pointer none) [] [⟨b15, u5.arr x5, 74⟩, ⟨b10, r.arr xr, 74⟩, ⟨b8, q.arr xq, 74⟩, ⟨b5, u.arr x, 74⟩] [] (prows u5 x5 (⟨la, l.length, lc, ints l⟩ :: prows r xr (prows q xq (prows u x [])))) wy2 from ST61.out.var f_ b_ (Nat.le_of_eq hb_.symm))
                clear ST61 f_ b_ l_ hb_
                clear CU
                go_upto_region 23 with fail
                simp only [Act.put, List.setIfInBounds_toArray, List.set_cons_succ, List.set_cons_zero]
                have hsum : (u.e.length : Int) + (u.z.length : Int) = (l.length : Int) := by rw [HLL.out, all_len]; simp
                have h64 : l.length ≤ 64 := by rw [HLL.out, all_len]; exact HG.out.fit
                have d64 : decide ((l.length : Int) ≤ 64) = true := decide_eq_true (by omega)
                have lz1 := HG.out.e.len
                have lz2 := HG.out.z.len
                obtain ⟨u7, hu7⟩ : ∃ w, w = peDown u K := ⟨_, rfl⟩
                have HG7 := Lib.hid (show u7.Good by rw [hu7]; exact HG.out.down K)
                obtain ⟨l7, hl7⟩ : ∃ w, w = peAll u7 := ⟨_, rfl⟩
                have h7 : l7.length ≤ l.length := by rw [hl7, hu7, HLL.out]; exact down_len HG.out K
                have d7 : decide (l7.length ≤ l.length) = true := decide_eq_true h7
                have CL1 := Lib.hid (fun w => setLen_any x.ea u.e.length x.ec 64 w)
                have CL2 := Lib.hid (fun w => setLen_any x.za u.z.length x.zc 64 w)
                have CH := Lib.hid (fun w (f : Gr wy2 w) => setHas_any x5.ea x5.ec u5.e 64 K w ((ST62.out.gr f).rowAt 0 rfl) HG5.out.e)
                have CD := Lib.hid (fun w (f : Gr wy2 w) => (hu7 ▸ peersDown_any u x K _ w ((ST62.out.gr f).enterN (prows u x []) (inC (at_ 7 rfl) (inC (at_ 8 rfl) inN))) HG.out : Calls Try.prog _ _ w (PEnd w _ u7 (fun a => .agg a))))
                have CA := Lib.hid (fun x7 O w h => (hl7 ▸ peersAll_any u7 x7 O w h HG7.out : Calls Try.prog _ _ w (OwnOut l7 w)))
                clear hu7 hl7 h7 HLL
                cases c
                rotate_left
                · clear HT HC
                  haveI : Nonempty (WC (Gr wy2)) := ⟨⟨wy2, Fr.refl _ _⟩⟩
                  have z0 : ∀ z2 : WC (Gr wy2), z2.val.cell? ⟨b5, 0, none⟩ = some (.slice x.ea u.e.length x.ec) := fun z2 => z2.ok.cell (ST62.out.cell 3 0 rfl rfl) (fun h => h)
                  have z1 : ∀ z2 : WC (Gr wy2), z2.val.cell? ⟨b5, 1, none⟩ = some (.int .i64 64) := fun z2 => z2.ok.cell (ST62.out.cell 3 1 rfl rfl) (fun h => h)
                  have z2 : ∀ z2 : WC (Gr wy2), z2.val.cell? ⟨b5, 2, none⟩ = some (.slice x.za u.z.length x.zc) := fun z2 => z2.ok.cell (ST62.out.cell 3 2 rfl rfl) (fun h => h)
                  have z3 : ∀ z2 : WC (Gr wy2), z2.val.cell? ⟨b5, 3, none⟩ = some (.int .i64 64) := fun z2 => z2.ok.cell (ST62.out.cell 3 3 rfl rfl) (fun h => h)
                  have z4 : ∀ z2 : WC (Gr wy2), z2.val.cell? ⟨b15, 0, none⟩ = some (.slice x5.ea u5.e.length x5.ec) := fun z2 => z2.ok.cell (ST62.out.cell 0 0 rfl rfl) (fun h => h)
                  have z5 : ∀ z2 : WC (Gr wy2), z2.val.cell? ⟨b15, 1, none⟩ = some (.int .i64 64) := fun z2 => z2.ok.cell (ST62.out.cell 0 1 rfl rfl) (fun h => h)
                  refine wp_region_plan [4, 7, 26, 32, 33] (Plan.seq [0, 1, 2, 3, 4, 5, 6, 7, 8, 9, 10, 11, 12, 13, 14, 15, 16, 17, 18, 19, 20, 21, 22, 23, 24, 25, 26, 27, 28, 29, 30, 31, 32, 33, 34, 35, 36, 37, 38, 39] .done) (fun w' => ∃ z' : WC (Gr wy2), w' = z'.val) (by kernel_rfl) (by kernel_rfl) (fun c a w d v h => by cases d <;> exact h) (fun c a w d v h => by cases d <;> exact h) ⟨⟨wy2.drew, (Fr.refl _ _).drew⟩, rfl⟩ ?_
                  simp only [Plan.seq, List.foldr]
                  refine wpV_q (by simp only [List.getElem?_toArray, List.getElem?_cons_zero] <;> rfl) (by rfl) (by rfl) ?_
                  go_big_quiet_step (fail)
                  refine wpQuiet_nil ?_
                  repeat (refine wpV_q (by simp only [List.getElem?_toArray, List.getElem?_cons_succ, List.getElem?_cons_zero] <;> rfl) (by rfl) (by rfl) ?_; go_big_quiet_step (fail); refine wpQuiet_nil ?_)
                  refine wpV_e (by simp only [List.getElem?_toArray, List.getElem?_cons_succ, List.getElem?_cons_zero] <;> rfl) (by rfl) ?_
                  go_wp2_with fail
                  refine (CL1.out _).mono ?_
                  rintro e w7 ⟨rfl, f2⟩
                  have Fw7 : Gr wy2 w7 := Gr.trans (show Gr wy2 wy2.drew from (Fr.refl _ _).drew) f2
                  go_wp2_with fail
                  refine ⟨⟨⟨w7, Fw7⟩, rfl⟩, ?_⟩
                  repeat (refine wpV_q (by simp only [List.getElem?_toArray, List.getElem?_cons_succ, List.getElem?_cons_zero] <;> rfl) (by rfl) (by rfl) ?_; go_big_quiet_step (fail); refine wpQuiet_nil ?_)
                  refine wpV_e (by simp only [List.getElem?_toArray, List.getElem?_cons_succ, List.getElem?_cons_zero] <;> rfl) (by rfl) ?_
                  go_wp2_with fail
                  refine (CL2.out _).mono ?_
                  rintro e w8 ⟨rfl, f3⟩
                  have Fw8 : Gr wy2 w8 := Gr.trans Fw7 f3
                  go_wp2_with fail
                  refine ⟨⟨⟨w8, Fw8⟩, rfl⟩, ?_⟩
                  repeat (refine wpV_q (by simp only [List.getElem?_toArray, List.getElem?_cons_succ, List.getElem?_cons_zero] <;> rfl) (by rfl) (by rfl) ?_; go_big_quiet_step (fail); refine wpQuiet_nil ?_)
                  refine wpV_e (by simp only [List.getElem?_toArray, List.getElem?_cons_succ, List.getElem?_cons_zero] <;> rfl) (by rfl) ?_
                  go_wp2_with fail
                  refine ⟨⟨⟨w8, Fw8⟩, rfl⟩, ?_⟩
                  repeat (refine wpV_q (by simp only [List.getElem?_toArray, List.getElem?_cons_succ, List.getElem?_cons_zero] <;> rfl) (by rfl) (by rfl) ?_; go_big_quiet_step (fail); refine wpQuiet_nil ?_)
                  refine wpV_e (by simp only [List.getElem?_toArray, List.getElem?_cons_succ, List.getElem?_cons_zero] <;> rfl) (by rfl) ?_
                  go_wp2_with fail
                  refine (CD.out _ Fw8).mono ?_
                  rintro e w10 ⟨x7, rfl, hst⟩
                  have ST7 := Lib.hid hst
                  have F10 : Gr wy2 w10 := Gr.trans Fw8 hst.grW
                  clear hst
                  go_wp2_with fail
                  refine ⟨⟨⟨w10, F10⟩, rfl⟩, ?_⟩
                  refine wpV_e (by simp only [List.getElem?_toArray, List.getElem?_cons_succ, List.getElem?_cons_zero] <;> rfl) (by rfl) ?_
                  go_wp2_with fail
                  refine (CA.out x7 _ _ (ST7.out.enterN (prows u7 x7 []) (inC (at_ 0 rfl) (inC (at_ 1 rfl) inN)))).mono ?_
                  rintro e w11 ⟨v7, rfl, ho, hb⟩
                  obtain ⟨a7, c7, rfl, hs7, -⟩ := SlA.of_own ho
                  have l77 := hs7.le
                  have l78 := hs7.max
                  have F11 : Gr wy2 w11 := Gr.trans F10 (Gr.of_below hb)
                  clear ho hb ST7 hs7
                  go_wp2_with fail
                  refine ⟨⟨⟨w11, F11⟩, rfl⟩, ?_⟩
                  repeat (refine wpV_q (by simp only [List.getElem?_toArray, List.getElem?_cons_succ, List.getElem?_cons_zero] <;> rfl) (by rfl) (by rfl) ?_; go_big_quiet_step (fail); refine wpQuiet_nil ?_)
                  clear f2 f3
                  refine wpV_done ?_
                  have FZ := Lib.hid F11
                  clear this z0 z1 z2 z3 z4 z5
                  go_wp2_with fail
                  go_ret
                  exact ⟨rfl, Gr.trans F1.out (Gr.trans ST62.out.grW FZ.out)⟩
                by_cases hl64 : l.length = 64
                · have d65 : ((l.length : Int) == 64) = true := by simpa using (by omega : (l.length : Int) = 64)
                  clear hl64 HT HC
                  haveI : Nonempty (WC (Gr wy2)) := ⟨⟨wy2, Fr.refl _ _⟩⟩
                  have z0 : ∀ z2 : WC (Gr wy2), z2.val.cell? ⟨b5, 0, none⟩ = some (.slice x.ea u.e.length x.ec) := fun z2 => z2.ok.cell (ST62.out.cell 3 0 rfl rfl) (fun h => h)
                  have z1 : ∀ z2 : WC (Gr wy2), z2.val.cell? ⟨b5, 1, none⟩ = some (.int .i64 64) := fun z2 => z2.ok.cell (ST62.out.cell 3 1 rfl rfl) (fun h => h)
                  have z2 : ∀ z2 : WC (Gr wy2), z2.val.cell? ⟨b5, 2, none⟩ = some (.slice x.za u.z.length x.zc) := fun z2 => z2.ok.cell (ST62.out.cell 3 2 rfl rfl) (fun h => h)
                  have z3 : ∀ z2 : WC (Gr wy2), z2.val.cell? ⟨b5, 3, none⟩ = some (.int .i64 64) := fun z2 => z2.ok.cell (ST62.out.cell 3 3 rfl rfl) (fun h => h)
                  have z4 : ∀ z2 : WC (Gr wy2), z2.val.cell? ⟨b15, 0, none⟩ = some (.slice x5.ea u5.e.length x5.ec) := fun z2 => z2.ok.cell (ST62.out.cell 0 0 rfl rfl) (fun h => h)
                  have z5 : ∀ z2 : WC (Gr wy2), z2.val.cell? ⟨b15, 1, none⟩ = some (.int .i64 64) := fun z2 => z2.ok.cell (ST62.out.cell 0 1 rfl rfl) (fun h => h)
                  refine wp_region_plan [4, 7, 26, 32, 33] (Plan.seq [0, 1, 2, 3, 4, 5, 6, 7, 8, 9, 10, 11, 12, 13, 14, 15, 16, 17, 18, 19, 20, 21, 22, 23, 24, 25, 26, 27, 28, 29, 30, 31, 32, 33, 34, 35, 36, 37, 38, 39] .done) (fun w' => ∃ z' : WC (Gr wy2), w' = z'.val) (by kernel_rfl) (by kernel_rfl) (fun c a w d v h => by cases d <;> exact h) (fun c a w d v h => by cases d <;> exact h) ⟨⟨wy2.drew, (Fr.refl _ _).drew⟩, rfl⟩ ?_
                  simp only [Plan.seq, List.foldr]
                  refine wpV_q (by simp only [List.getElem?_toArray, List.getElem?_cons_zero] <;> rfl) (by rfl) (by rfl) ?_
                  go_big_quiet_step (fail)
                  refine wpQuiet_nil ?_
                  repeat (refine wpV_q (by simp only [List.getElem?_toArray, List.getElem?_cons_succ, List.getElem?_cons_zero] <;> rfl) (by rfl) (by rfl) ?_; go_big_quiet_step (fail); refine wpQuiet_nil ?_)
                  refine wpV_e (by simp only [List.getElem?_toArray, List.getElem?_cons_succ, List.getElem?_cons_zero] <;> rfl) (by rfl) ?_
                  go_wp2_with fail
                  refine (CL1.out _).mono ?_
                  rintro e w7 ⟨rfl, f2⟩
                  have Fw7 : Gr wy2 w7 := Gr.trans (show Gr wy2 wy2.drew from (Fr.refl _ _).drew) f2
                  go_wp2_with fail
                  refine ⟨⟨⟨w7, Fw7⟩, rfl⟩, ?_⟩
                  repeat (refine wpV_q (by simp only [List.getElem?_toArray, List.getElem?_cons_succ, List.getElem?_cons_zero] <;> rfl) (by rfl) (by rfl) ?_; go_big_quiet_step (fail); refine wpQuiet_nil ?_)
                  refine wpV_e (by simp only [List.getElem?_toArray, List.getElem?_cons_succ, List.getElem?_cons_zero] <;> rfl) (by rfl) ?_
                  go_wp2_with fail
                  refine (CL2.out _).mono ?_
                  rintro e w8 ⟨rfl, f3⟩
                  have Fw8 : Gr wy2 w8 := Gr.trans Fw7 f3
                  go_wp2_with fail
                  refine ⟨⟨⟨w8, Fw8⟩, rfl⟩, ?_⟩
                  repeat (refine wpV_q (by simp only [List.getElem?_toArray, List.getElem?_cons_succ, List.getElem?_cons_zero] <;> rfl) (by rfl) (by rfl) ?_; go_big_quiet_step (fail); refine wpQuiet_nil ?_)
                  refine wpV_e (by simp only [List.getElem?_toArray, List.getElem?_cons_succ, List.getElem?_cons_zero] <;> rfl) (by rfl) ?_
                  go_wp2_with fail
                  refine ⟨⟨⟨w8, Fw8⟩, rfl⟩, ?_⟩
                  repeat (refine wpV_q (by simp only [List.getElem?_toArray, List.getElem?_cons_succ, List.getElem?_cons_zero] <;> rfl) (by rfl) (by rfl) ?_; go_big_quiet_step (fail); refine wpQuiet_nil ?_)
                  refine wpV_e (by simp only [List.getElem?_toArray, List.getElem?_cons_succ, List.getElem?_cons_zero] <;> rfl) (by rfl) ?_
                  go_wp2_with fail
                  refine (CD.out _ Fw8).mono ?_
                  rintro e w10 ⟨x7, rfl, hst⟩
                  have ST7 := Lib.hid hst
                  have F10 : Gr wy2 w10 := Gr.trans Fw8 hst.grW
                  clear hst
                  go_wp2_with fail
                  refine ⟨⟨⟨w10, F10⟩, rfl⟩, ?_⟩
                  refine wpV_e (by simp only [List.getElem?_toArray, List.getElem?_cons_succ, List.getElem?_cons_zero] <;> rfl) (by rfl) ?_
                  go_wp2_with fail
                  refine (CA.out x7 _ _ (ST7.out.enterN (prows u7 x7 []) (inC (at_ 0 rfl) (inC (at_ 1 rfl) inN)))).mono ?_
                  rintro e w11 ⟨v7, rfl, ho, hb⟩
                  obtain ⟨a7, c7, rfl, hs7, -⟩ := SlA.of_own ho
                  have l77 := hs7.le
                  have l78 := hs7.max
                  have F11 : Gr wy2 w11 := Gr.trans F10 (Gr.of_below hb)
                  clear ho hb ST7 hs7
                  go_wp2_with fail
                  refine ⟨⟨⟨w11, F11⟩, rfl⟩, ?_⟩
                  repeat (refine wpV_q (by simp only [List.getElem?_toArray, List.getElem?_cons_succ, List.getElem?_cons_zero] <;> rfl) (by rfl) (by rfl) ?_; go_big_quiet_step (fail); refine wpQuiet_nil ?_)
                  clear f2 f3
                  refine wpV_done ?_
                  have FZ := Lib.hid F11
                  clear this z0 z1 z2 z3 z4 z5
                  go_wp2_with fail
                  go_ret
                  exact ⟨rfl, Gr.trans F1.out (Gr.trans ST62.out.grW FZ.out)⟩
                have d65 : ((l.length : Int) == 64) = false := by simpa using (by omega : ¬ (l.length : Int) = 64)
                have hh5 : has u5.e K = true := by
                  rcases HT.out with h | h | h
                  · cases h
                  · exact absurd h hl64
                  · exact h
                rw [hh5] at CH
                clear hh5 hl64 HT HC
                haveI : Nonempty (WC (Gr wy2)) := ⟨⟨wy2, Fr.refl _ _⟩⟩
                have z0 : ∀ z2 : WC (Gr wy2), z2.val.cell? ⟨b5, 0, none⟩ = some (.slice x.ea u.e.length x.ec) := fun z2 => z2.ok.cell (ST62.out.cell 3 0 rfl rfl) (fun h => h)
                have z1 : ∀ z2 : WC (Gr wy2), z2.val.cell? ⟨b5, 1, none⟩ = some (.int .i64 64) := fun z2 => z2.ok.cell (ST62.out.cell 3 1 rfl rfl) (fun h => h)
                have z2 : ∀ z2 : WC (Gr wy2), z2.val.cell? ⟨b5, 2, none⟩ = some (.slice x.za u.z.length x.zc) := fun z2 => z2.ok.cell (ST62.out.cell 3 2 rfl rfl) (fun h => h)
                have z3 : ∀ z2 : WC (Gr wy2), z2.val.cell? ⟨b5, 3, none⟩ = some (.int .i64 64) := fun z2 => z2.ok.cell (ST62.out.cell 3 3 rfl rfl) (fun h => h)
                have z4 : ∀ z2 : WC (Gr wy2), z2.val.cell? ⟨b15, 0, none⟩ = some (.slice x5.ea u5.e.length x5.ec) := fun z2 => z2.ok.cell (ST62.out.cell 0 0 rfl rfl) (fun h => h)
                have z5 : ∀ z2 : WC (Gr wy2), z2.val.cell? ⟨b15, 1, none⟩ = some (.int .i64 64) := fun z2 => z2.ok.cell (ST62.out.cell 0 1 rfl rfl) (fun h => h)
                refine wp_region_plan [4, 7, 26, 32, 33] (Plan.seq [0, 1, 2, 3, 4, 5, 6, 7, 8, 9, 10, 11, 12, 13, 14, 15, 16, 17, 18, 19, 20, 21, 22, 23, 24, 25, 26, 27, 28, 29, 30, 31, 32, 33, 34, 35, 36, 37, 38, 39] .done) (fun w' => ∃ z' : WC (Gr wy2), w' = z'.val) (by kernel_rfl) (by kernel_rfl) (fun c a w d v h => by cases d <;> exact h) (fun c a w d v h => by cases d <;> exact h) ⟨⟨wy2.drew, (Fr.refl _ _).drew⟩, rfl⟩ ?_
                simp only [Plan.seq, List.foldr]
                refine wpV_q (by simp only [List.getElem?_toArray, List.getElem?_cons_zero] <;> rfl) (by rfl) (by rfl) ?_
                go_big_quiet_step (fail)
                refine wpQuiet_nil ?_
                repeat (refine wpV_q (by simp only [List.getElem?_toArray, List.getElem?_cons_succ, List.getElem?_cons_zero] <;> rfl) (by rfl) (by rfl) ?_; go_big_quiet_step (fail); refine wpQuiet_nil ?_)
                refine wpV_e (by simp only [List.getElem?_toArray, List.getElem?_cons_succ, List.getElem?_cons_zero] <;> rfl) (by rfl) ?_
                go_wp2_with fail
                refine (CL1.out _).mono ?_
                rintro e w7 ⟨rfl, f2⟩
                have Fw7 : Gr wy2 w7 := Gr.trans (show Gr wy2 wy2.drew from (Fr.refl _ _).drew) f2
                go_wp2_with fail
                refine ⟨⟨⟨w7, Fw7⟩, rfl⟩, ?_⟩
                repeat (refine wpV_q (by simp only [List.getElem?_toArray, List.getElem?_cons_succ, List.getElem?_cons_zero] <;> rfl) (by rfl) (by rfl) ?_; go_big_quiet_step (fail); refine wpQuiet_nil ?_)
                refine wpV_e (by simp only [List.getElem?_toArray, List.getElem?_cons_succ, List.getElem?_cons_zero] <;> rfl) (by rfl) ?_
                go_wp2_with fail
                refine (CL2.out _).mono ?_
                rintro e w8 ⟨rfl, f3⟩
                have Fw8 : Gr wy2 w8 := Gr.trans Fw7 f3
                go_wp2_with fail
                refine ⟨⟨⟨w8, Fw8⟩, rfl⟩, ?_⟩
                repeat (refine wpV_q (by simp only [List.getElem?_toArray, List.getElem?_cons_succ, List.getElem?_cons_zero] <;> rfl) (by rfl) (by rfl) ?_; go_big_quiet_step (fail); refine wpQuiet_nil ?_)
                refine wpV_e (by simp only [List.getElem?_toArray, List.getElem?_cons_succ, List.getElem?_cons_zero] <;> rfl) (by rfl) ?_
                go_wp2_with fail
                refine (CH.out _ Fw8).mono ?_
                rintro e w9 ⟨rfl, f4⟩
                have Fw9 : Gr wy2 w9 := Gr.trans Fw8 f4
                go_wp2_with fail
                refine ⟨⟨⟨w9, Fw9⟩, rfl⟩, ?_⟩
                repeat (refine wpV_q (by simp only [List.getElem?_toArray, List.getElem?_cons_succ, List.getElem?_cons_zero] <;> rfl) (by rfl) (by rfl) ?_; go_big_quiet_step (fail); refine wpQuiet_nil ?_)
                refine wpV_e (by simp only [List.getElem?_toArray, List.getElem?_cons_succ, List.getElem?_cons_zero] <;> rfl) (by rfl) ?_
                go_wp2_with fail
                refine (CD.out _ Fw9).mono ?_
                rintro e w10 ⟨x7, rfl, hst⟩
                have ST7 := Lib.hid hst
                have F10 : Gr wy2 w10 := Gr.trans Fw9 hst.grW
                clear hst
                go_wp2_with fail
                refine ⟨⟨⟨w10, F10⟩, rfl⟩, ?_⟩
                refine wpV_e (by simp only [List.getElem?_toArray, List.getElem?_cons_succ, List.getElem?_cons_zero] <;> rfl) (by rfl) ?_
                go_wp2_with fail
                refine (CA.out x7 _ _ (ST7.out.enterN (prows u7 x7 []) (inC (at_ 0 rfl) (inC (at_ 1 rfl) inN)))).mono ?_
                rintro e w11 ⟨v7, rfl, ho, hb⟩
                obtain ⟨a7, c7, rfl, hs7, -⟩ := SlA.of_own ho
                have l77 := hs7.le
                have l78 := hs7.max
                have F11 : Gr wy2 w11 := Gr.trans F10 (Gr.of_below hb)
                clear ho hb ST7 hs7
                go_wp2_with fail
                refine ⟨⟨⟨w11, F11⟩, rfl⟩, ?_⟩
                repeat (refine wpV_q (by simp only [List.getElem?_toArray, List.getElem?_cons_succ, List.getElem?_cons_zero] <;> rfl) (by rfl) (by rfl) ?_; go_big_quiet_step (fail); refine wpQuiet_nil ?_)
                clear f2 f3 f4
                refine wpV_done ?_
                have FZ := Lib.hid F11
                clear this z0 z1 z2 z3 z4 z5
                go_wp2_with fail
                go_ret
                exact ⟨rfl, Gr.trans F1.out (Gr.trans ST62.out.grW FZ.out)⟩
end Go.Proofs.Ytelepohdfcjnfaa
