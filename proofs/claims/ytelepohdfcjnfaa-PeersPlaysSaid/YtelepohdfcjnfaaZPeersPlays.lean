/-
  The walk of PeersPlays (printed by gen_pplays.py).
-/
import Derived.Test.YtelepohdfcjnfaaZPeLaw
import Derived.Test.YtelepohdfcjnfaaZRegionT
import Derived.Deep.CutRange
import Derived.Deep.CutBlock
namespace Go.Proofs.Ytelepohdfcjnfaa
open Go.RowKit Go.Proofs

set_option maxHeartbeats 16000000 in
set_option maxRecDepth 100000 in
theorem peersPlays_walk (a1 : Option Addr) (c1 : Nat) (L : List (Int × Int)) (W : World) (h1 : SlA W a1 L.length c1 (L.flatMap pc2)) :
    Calls Try.prog 5 #[.slice a1 L.length c1] W fun e w' => e = .returned (.bool true) ∧ Gr W w' := by
  obtain ⟨ip, hp1, hp2, hp3⟩ := info_pair Try.zeroPeers
  obtain ⟨ir, hr1, hr2, hr3⟩ := info_pair Try.zeroRPeers
  have HL := Lib.hid h1
  have e1 := h1.le
  have e2 := h1.max
  have S0 := Lib.hid (speaks17_any W)
  obtain ⟨u0, h0⟩ : ∃ u : Pe, u = ⟨[], []⟩ := ⟨_, rfl⟩
  obtain ⟨m0, hm0⟩ : ∃ u : Pe, u = ⟨[], []⟩ := ⟨_, rfl⟩
  have CN := Lib.hid (fun w => (h0 ▸ peersNew_any w : Calls Try.prog 26 #[] w fun e w' => e = .returned (.agg (u0.arr peNoP)) ∧ Gr w w'))
  have HI0 := Lib.hid (show PLike u0 m0 ∧ u0.Good by rw [h0, hm0]; exact ⟨plike_none, pe_none⟩)
  have H0 := Lib.hid h0
  have HM0 := Lib.hid hm0
  clear h1 h0 hm0
  go_enter Try.func5, Try.ntmps5
  go_wp2_with fail
  refine S0.out.mono ?_
  rintro e w1 ⟨rfl, f1⟩
  have F1 := Lib.hid f1
  clear f1 S0
  go_wp2_with fail
  refine (CN.out _).mono ?_
  rintro e w2 ⟨rfl, f2⟩
  have ST1 := Lib.hid (show Sta w1 (fun _ => True) (.pointer none) [] [] [] (prows u0 peNoP (prows m0 peNoP [])) w2 from ((((Sta.initR (W := w1) (R := []) (fun _ h => nomatch h)).gr f2).addNil (r := ⟨none, m0.z.length, 0, ints m0.z⟩) (by rw [HM0.out]; rfl) (by rw [HM0.out]; decide) (Nat.zero_le _)).addNil (r := ⟨none, m0.e.length, 0, ints m0.e⟩) (by rw [HM0.out]; rfl) (by rw [HM0.out]; decide) (Nat.zero_le _)).addNil (r := ⟨none, u0.z.length, 0, ints u0.z⟩) (by rw [H0.out]; rfl) (by rw [H0.out]; decide) (Nat.zero_le _) |>.addNil (r := ⟨none, u0.e.length, 0, ints u0.e⟩) (by rw [H0.out]; rfl) (by rw [H0.out]; decide) (Nat.zero_le _))
  clear f2 CN
  go_wp2_with (refine wpList_fresh (vs := u0.arr peNoP) hp1 hp2 Try.infoPeers (by rfl) (by rw [← Array.all_toList]; rfl) (by rfl) (by rfl) ?_)
  intro w3 f_ b_ l_
  obtain ⟨b3, hb_⟩ : ∃ b, b = w2.heap.size := ⟨_, rfl⟩
  rw [← hb_] at b_ l_ ⊢
  have ST2 := Lib.hid (show Sta w1 (fun _ => True) (.pointer none) [] [⟨b3, u0.arr peNoP, 74⟩] [] (prows u0 peNoP (prows m0 peNoP [])) w3 from ST1.out.var f_ b_ (Nat.le_of_eq hb_.symm))
  clear ST1 f_ b_ l_ hb_
  have HZ : rpeZ = m0.rarr peNoP := by rw [HM0.out]; rfl
  go_upto_region 5 with fail
  obtain ⟨w4, hw_⟩ : ∃ x, x = w3.alloc (.cells (m0.rarr peNoP) 77) := ⟨_, rfl⟩
  obtain ⟨b4, hb_⟩ : ∃ b, b = w3.heap.size := ⟨_, rfl⟩
  rw [← hw_, ← hb_]
  clear HZ
  have ST3 := Lib.hid (show Sta w1 (fun _ => True) (.pointer none) [] [⟨b4, m0.rarr peNoP, 77⟩, ⟨b3, u0.arr peNoP, 74⟩] [] (prows u0 peNoP (prows m0 peNoP [])) w4 from hw_ ▸ ST2.out.box _ _ hb_)
  clear ST2 hw_ hb_
  clear H0 HM0
  go_wp2_with fail
  go_loopw [5] (fun iv wr => ∃ (k : Nat) (u : Pe) (x : PeP) (m : Pe) (y : PeP), iv = .int .i64 k ∧ k ≤ L.length ∧ u.Good ∧ PLike u m ∧ Sta w1 (fun _ => True) (.pointer none) [] [⟨b4, m.rarr y, 77⟩, ⟨b3, u.arr x, 74⟩] [] (prows u x (prows m y [])) wr) (fun iv _ => L.length - (intOf iv).toNat)
  case atStart => exact ⟨0, u0, peNoP, m0, peNoP, rfl, Nat.zero_le _, HI0.out.2, HI0.out.1, ST3.out⟩
  case round =>
    obtain ⟨k, u, x, m, y, rfl, hk, hg, hl, hst⟩ := hrel
    clear ST3 HI0
    have ST20 := Lib.hid hst
    have HG := Lib.hid hg
    have HLK := Lib.hid hl
    clear hst hg hl
    by_cases hlt : k < L.length
    · have d1 : decide ((k : Int) < (L.length : Int)) = true := decide_eq_true (by omega)
      by_cases h90 : k < 90
      · have d2 : decide ((k : Int) < 90) = true := decide_eq_true (by omega)
        have HLr := Lib.hid (HL.out.keep (Gr.trans F1.out ST20.out.grW) (fun _ _ h => h))
        obtain ⟨bo, oo, rfl, hel⟩ := SlA.elem (f := pc2) (n := 2) (fun _ => rfl) (by decide) HLr.out k hlt
        have c0 : wr.cell? ⟨bo, oo + k * 2, none⟩ = some (.int .i64 L[k].1) := hel 0 _ rfl
        have c1 : wr.cell? ⟨bo, oo + k * 2 + 1, none⟩ = some (.int .i64 L[k].2) := hel 1 _ rfl
        clear hel HLr c0
        generalize L[k].2 = n at c1
        go_upto_region 9 with fail
        clear c1 d1 d2
        go_cut [7, 8] from 29 to 30 (fun a b wx => ∃ b7 b8, a = .pointer (some ⟨b7, 0, none⟩) ∧ b = .pointer (some ⟨b8, 0, none⟩) ∧ Sta w1 (fun _ => True) (.pointer none) [] [⟨b8, m.rarr y, 77⟩, ⟨b7, u.arr x, 74⟩, ⟨b4, m.rarr y, 77⟩, ⟨b3, u.arr x, 74⟩] [] (prows u x (prows m y [])) wx)
        case first =>
          obtain ⟨wd, hwd⟩ : ∃ x, x = wr.drew := ⟨_, rfl⟩
          have HWD := Lib.hid hwd
          have ST21 := Lib.hid (show Sta w1 (fun _ => True) (.pointer none) [] [⟨b4, m.rarr y, 77⟩, ⟨b3, u.arr x, 74⟩] [] (prows u x (prows m y [])) wd from hwd ▸ ST20.out.gr ((Fr.refl _ _).drew))
          clear ST20 hwd
          haveI : Nonempty (WC (fun w => w.heap[b4]? = some (.cells (m.rarr y) 77 (0, 0)) ∧ w.heap[b3]? = some (.cells (u.arr x) 74 (0, 0)))) := ⟨⟨wd, ⟨ST21.out.blkAt 0 rfl, ST21.out.blkAt 1 rfl⟩⟩⟩
          refine wp_region_plan [2, 3, 4, 5] (Plan.seq [0, 1] (.fork 2 3 (Plan.seq [3, 4, 5] .done) (Plan.seq [2, 4, 5] .done))) (fun w' => ∃ z : WC (fun w => w.heap[b4]? = some (.cells (m.rarr y) 77 (0, 0)) ∧ w.heap[b3]? = some (.cells (u.arr x) 74 (0, 0))), w' = z.val) (by kernel_rfl) (by kernel_rfl) (fun c a w d v h => by cases d <;> exact h) (fun c a w d v h => by cases d <;> exact h) (by rw [← HWD.out]; exact ⟨⟨wd, ⟨ST21.out.blkAt 0 rfl, ST21.out.blkAt 1 rfl⟩⟩, rfl⟩) ?_
          rw [← HWD.out]
          clear HWD
          refine wpV_q (by simp only [List.getElem?_toArray, List.getElem?_cons_zero] <;> rfl) (by rfl) (by rfl) ?_
          refine wpQuiet_loadH (by rfl) 74 _ (by rfl) b3 0 (by rfl) (Array.toList (u.arr x)) _ (fun w ⟨z, hz⟩ => hz ▸ blk_range z.ok.2) Try.underlying74 rfl Try.infoPeers ?_
          refine wpQuiet_nil ?_
          simp only [Act.put, List.setIfInBounds_toArray, List.set_cons_succ, List.set_cons_zero]
          refine wpV_q (by simp only [List.getElem?_toArray, List.getElem?_cons_succ, List.getElem?_cons_zero] <;> rfl) (by rfl) (by rfl) ?_
          refine wpQuiet_loadH (by rfl) 77 _ (by rfl) b4 0 (by rfl) (Array.toList (m.rarr y)) _ (fun w ⟨z, hz⟩ => hz ▸ blk_range z.ok.1) Try.underlying77 rfl Try.infoRPeers ?_
          refine wpQuiet_nil ?_
          simp only [Act.put, List.setIfInBounds_toArray, List.set_cons_succ, List.set_cons_zero]
          refine wpV_fork (by simp only [List.getElem?_toArray, List.getElem?_cons_succ, List.getElem?_cons_zero] <;> rfl) (by simp only [List.getElem?_toArray, List.getElem?_cons_succ, List.getElem?_cons_zero] <;> rfl) ?_ ?_
          · go_wp2_with fail
            obtain ⟨wa, hw_⟩ : ∃ x, x = wd.alloc (.cells peZ 74) := ⟨_, rfl⟩
            obtain ⟨b7, hb_⟩ : ∃ b, b = wd.heap.size := ⟨_, rfl⟩
            rw [← hw_, ← hb_]
            have ST22 := Lib.hid (show Sta w1 (fun _ => True) (.pointer none) [] [⟨b7, peZ, 74⟩, ⟨b4, m.rarr y, 77⟩, ⟨b3, u.arr x, 74⟩] [] (prows u x (prows m y [])) wa from hw_ ▸ ST21.out.box _ _ hb_)
            clear ST21 hw_ hb_
            refine ⟨⟨⟨wa, ⟨ST22.out.blkAt 1 rfl, ST22.out.blkAt 2 rfl⟩⟩, rfl⟩, ?_⟩
            refine wpV_e (by simp only [List.getElem?_toArray, List.getElem?_cons_succ, List.getElem?_cons_zero] <;> rfl) (by rfl) ?_
            go_wp2_with fail
            obtain ⟨wb, hw_⟩ : ∃ x, x = wa.alloc (.cells rpeZ 77) := ⟨_, rfl⟩
            obtain ⟨b8, hb_⟩ : ∃ b, b = wa.heap.size := ⟨_, rfl⟩
            rw [← hw_, ← hb_]
            have ST23 := Lib.hid (show Sta w1 (fun _ => True) (.pointer none) [] [⟨b8, rpeZ, 77⟩, ⟨b7, peZ, 74⟩, ⟨b4, m.rarr y, 77⟩, ⟨b3, u.arr x, 74⟩] [] (prows u x (prows m y [])) wb from hw_ ▸ ST22.out.box _ _ hb_)
            clear ST22 hw_ hb_
            refine ⟨⟨⟨wb, ⟨ST23.out.blkAt 2 rfl, ST23.out.blkAt 3 rfl⟩⟩, rfl⟩, ?_⟩
            refine wpV_e (by simp only [List.getElem?_toArray, List.getElem?_cons_succ, List.getElem?_cons_zero] <;> rfl) (by rfl) ?_
            refine wpList_storeW (vs := u.arr x) (ST23.out.blkAt 1 rfl) (by rfl) 74 _ _ (by rfl) (by rfl) (by rfl) rfl Try.infoPeers (by rw [← Array.all_toList]; rfl) ?_
            intro wc1 f_ b_
            have ST24 := Lib.hid (show Sta w1 (fun _ => True) (.pointer none) [] [⟨b8, rpeZ, 77⟩, ⟨b7, u.arr x, 74⟩, ⟨b4, m.rarr y, 77⟩, ⟨b3, u.arr x, 74⟩] [] (prows u x (prows m y [])) wc1 from ST23.out.store 1 rfl f_ b_)
            clear ST23 f_ b_
            refine wpList_nil ?_
            refine ⟨⟨⟨wc1, ⟨ST24.out.blkAt 2 rfl, ST24.out.blkAt 3 rfl⟩⟩, rfl⟩, ?_⟩
            simp only [Act.put]
            refine wpV_e (by simp only [List.getElem?_toArray, List.getElem?_cons_succ, List.getElem?_cons_zero] <;> rfl) (by rfl) ?_
            refine wpList_storeW (vs := m.rarr y) (ST24.out.blkAt 0 rfl) (by rfl) 77 _ _ (by rfl) (by rfl) (by rfl) rfl Try.infoRPeers (by rw [← Array.all_toList]; rfl) ?_
            intro wd1 f_ b_
            have ST25 := Lib.hid (show Sta w1 (fun _ => True) (.pointer none) [] [⟨b8, m.rarr y, 77⟩, ⟨b7, u.arr x, 74⟩, ⟨b4, m.rarr y, 77⟩, ⟨b3, u.arr x, 74⟩] [] (prows u x (prows m y [])) wd1 from ST24.out.store 0 rfl f_ b_)
            clear ST24 f_ b_
            refine wpList_nil ?_
            refine ⟨⟨⟨wd1, ⟨ST25.out.blkAt 2 rfl, ST25.out.blkAt 3 rfl⟩⟩, rfl⟩, ?_⟩
            simp only [Act.put]
            refine wpV_done ?_
            clear this
            go_wp2_with fail
            go_meet
            exact ⟨b7, b8, rfl, rfl, ST25.out⟩
          · go_wp2_with fail
            obtain ⟨wa, hw_⟩ : ∃ x, x = wd.alloc (.cells rpeZ 77) := ⟨_, rfl⟩
            obtain ⟨b8, hb_⟩ : ∃ b, b = wd.heap.size := ⟨_, rfl⟩
            rw [← hw_, ← hb_]
            have ST22 := Lib.hid (show Sta w1 (fun _ => True) (.pointer none) [] [⟨b8, rpeZ, 77⟩, ⟨b4, m.rarr y, 77⟩, ⟨b3, u.arr x, 74⟩] [] (prows u x (prows m y [])) wa from hw_ ▸ ST21.out.box _ _ hb_)
            clear ST21 hw_ hb_
            refine ⟨⟨⟨wa, ⟨ST22.out.blkAt 1 rfl, ST22.out.blkAt 2 rfl⟩⟩, rfl⟩, ?_⟩
            refine wpV_e (by simp only [List.getElem?_toArray, List.getElem?_cons_succ, List.getElem?_cons_zero] <;> rfl) (by rfl) ?_
            go_wp2_with fail
            obtain ⟨wb, hw_⟩ : ∃ x, x = wa.alloc (.cells peZ 74) := ⟨_, rfl⟩
            obtain ⟨b7, hb_⟩ : ∃ b, b = wa.heap.size := ⟨_, rfl⟩
            rw [← hw_, ← hb_]
            have ST23 := Lib.hid (show Sta w1 (fun _ => True) (.pointer none) [] [⟨b7, peZ, 74⟩, ⟨b8, rpeZ, 77⟩, ⟨b4, m.rarr y, 77⟩, ⟨b3, u.arr x, 74⟩] [] (prows u x (prows m y [])) wb from hw_ ▸ ST22.out.box _ _ hb_)
            clear ST22 hw_ hb_
            refine ⟨⟨⟨wb, ⟨ST23.out.blkAt 2 rfl, ST23.out.blkAt 3 rfl⟩⟩, rfl⟩, ?_⟩
            refine wpV_e (by simp only [List.getElem?_toArray, List.getElem?_cons_succ, List.getElem?_cons_zero] <;> rfl) (by rfl) ?_
            refine wpList_storeW (vs := u.arr x) (ST23.out.blkAt 0 rfl) (by rfl) 74 _ _ (by rfl) (by rfl) (by rfl) rfl Try.infoPeers (by rw [← Array.all_toList]; rfl) ?_
            intro wc1 f_ b_
            have ST24 := Lib.hid (show Sta w1 (fun _ => True) (.pointer none) [] [⟨b7, u.arr x, 74⟩, ⟨b8, rpeZ, 77⟩, ⟨b4, m.rarr y, 77⟩, ⟨b3, u.arr x, 74⟩] [] (prows u x (prows m y [])) wc1 from ST23.out.store 0 rfl f_ b_)
            clear ST23 f_ b_
            refine wpList_nil ?_
            refine ⟨⟨⟨wc1, ⟨ST24.out.blkAt 2 rfl, ST24.out.blkAt 3 rfl⟩⟩, rfl⟩, ?_⟩
            simp only [Act.put]
            refine wpV_e (by simp only [List.getElem?_toArray, List.getElem?_cons_succ, List.getElem?_cons_zero] <;> rfl) (by rfl) ?_
            refine wpList_storeW (vs := m.rarr y) (ST24.out.blkAt 1 rfl) (by rfl) 77 _ _ (by rfl) (by rfl) (by rfl) rfl Try.infoRPeers (by rw [← Array.all_toList]; rfl) ?_
            intro wd1 f_ b_
            have ST25 := Lib.hid (show Sta w1 (fun _ => True) (.pointer none) [] [⟨b7, u.arr x, 74⟩, ⟨b8, m.rarr y, 77⟩, ⟨b4, m.rarr y, 77⟩, ⟨b3, u.arr x, 74⟩] [] (prows u x (prows m y [])) wd1 from ST24.out.store 1 rfl f_ b_)
            clear ST24 f_ b_
            refine wpList_nil ?_
            refine ⟨⟨⟨wd1, ⟨ST25.out.blkAt 2 rfl, ST25.out.blkAt 3 rfl⟩⟩, rfl⟩, ?_⟩
            simp only [Act.put]
            refine wpV_done ?_
            clear this
            go_wp2_with fail
            go_meet
            exact ⟨b7, b8, rfl, rfl, ST25.out.permB (List.Perm.swap _ _ _)⟩
        case rest =>
          obtain ⟨b7, b8, rfl, rfl, hst⟩ := hcut
          generalize wc = wv at hst ⊢
          have ST30 := Lib.hid hst
          clear hst ST20
          have HLr := Lib.hid (HL.out.keep (Gr.trans F1.out ST30.out.grW) (fun _ _ h => h))
          obtain ⟨bo2, oo2, eb, hel⟩ := SlA.elem (f := pc2) (n := 2) (fun _ => rfl) (by decide) HLr.out k hlt
          cases eb
          have c0 : wv.cell? ⟨bo, oo + k * 2, none⟩ = some (.int .i64 L[k].1) := hel 0 _ rfl
          clear hel HLr
          generalize L[k].1 = wh at c0
          obtain ⟨r1, r2, hr1_, hr2_, ra, rb, rc, rd⟩ := rem5 wh
          have HFEW := Lib.hid (HLK.out.few HG.out)
          by_cases h2 : r2 = 2
          · have t2 : (r2 == 2) = true := by simpa using h2
            obtain ⟨u', hu_⟩ : ∃ v, v = peDown u n := ⟨_, rfl⟩
            obtain ⟨m', hm_⟩ : ∃ v, v = rpDown m n := ⟨_, rfl⟩
            have HG2 := Lib.hid (show u'.Good by rw [hu_]; exact HG.out.down n)
            have HL2 := Lib.hid (show PLike u' m' by rw [hu_, hm_]; exact HLK.out.down HG.out n)
            have CU := Lib.hid (fun O w h => (hu_ ▸ peersDown_any u x n O w h HG.out : Calls Try.prog _ _ w (PEnd w O u' (fun a => .agg a))))
            have CM := Lib.hid (fun O w h => (hm_ ▸ rpDown_any m y n O w h HFEW.out : Calls Try.prog _ _ w (RPEnd w O m' (fun a => .agg a))))
            clear hu_ hm_
            clear h2
            go_upto_region 14 with fail
            clear t2 hr1_ hr2_ ra rb rc rd c0
            obtain ⟨wd, hwd⟩ : ∃ x, x = wv.drew := ⟨_, rfl⟩
            have HWD := Lib.hid hwd
            have ST31 := Lib.hid (show Sta w1 (fun _ => True) (.pointer none) [] [⟨b8, m.rarr y, 77⟩, ⟨b7, u.arr x, 74⟩, ⟨b4, m.rarr y, 77⟩, ⟨b3, u.arr x, 74⟩] [] (prows u x (prows m y [])) wd from hwd ▸ ST30.out.gr ((Fr.refl _ _).drew))
            clear ST30 hwd
            haveI : Nonempty (WC (fun w => w.heap[b4]? = some (.cells (m.rarr y) 77 (0, 0)) ∧ w.heap[b3]? = some (.cells (u.arr x) 74 (0, 0)))) := ⟨⟨wd, ⟨ST31.out.blkAt 2 rfl, ST31.out.blkAt 3 rfl⟩⟩⟩
            refine wp_region_tail 6 2 [2, 5] (Plan.seq [0, 1, 2, 3, 4, 5] .done) [6, 7] [6, 7] (fun w' => ∃ z : WC (fun w => w.heap[b4]? = some (.cells (m.rarr y) 77 (0, 0)) ∧ w.heap[b3]? = some (.cells (u.arr x) 74 (0, 0))), w' = z.val) (by kernel_rfl) (by kernel_rfl) (fun c a w d v h => by cases d <;> exact h) (fun c a w d v h => by cases d <;> exact h) (by rw [← HWD.out]; exact ⟨⟨wd, ⟨ST31.out.blkAt 2 rfl, ST31.out.blkAt 3 rfl⟩⟩, rfl⟩) ?_
            rw [← HWD.out]
            clear HWD
            simp only [List.take]
            refine wpV_q (by simp only [List.getElem?_toArray, List.getElem?_cons_zero] <;> rfl) (by rfl) (by rfl) ?_
            refine wpQuiet_loadH (by rfl) 74 _ (by rfl) b3 0 (by rfl) (Array.toList (u.arr x)) _ (fun w ⟨z, hz⟩ => hz ▸ blk_range z.ok.2) Try.underlying74 rfl Try.infoPeers ?_
            refine wpQuiet_nil ?_
            simp only [Act.put, List.setIfInBounds_toArray, List.set_cons_succ, List.set_cons_zero]
            refine wpV_q (by simp only [List.getElem?_toArray, List.getElem?_cons_succ, List.getElem?_cons_zero] <;> rfl) (by rfl) (by rfl) ?_
            go_big_quiet_step (fail)
            refine wpQuiet_nil ?_
            refine wpV_e (by simp only [List.getElem?_toArray, List.getElem?_cons_succ, List.getElem?_cons_zero] <;> rfl) (by rfl) ?_
            go_wp2_with fail
            refine (CU.out _ _ (ST31.out.enterN (prows u x []) (inC (at_ 0 rfl) (inC (at_ 1 rfl) inN)))).mono ?_
            intro e wq1 hst
            obtain ⟨x', rfl, hst2⟩ := hst
            have ST32 := Lib.hid (show Sta w1 (fun _ => True) (.pointer none) [] [⟨b8, m.rarr y, 77⟩, ⟨b7, u.arr x, 74⟩, ⟨b4, m.rarr y, 77⟩, ⟨b3, u.arr x, 74⟩] [] (prows u' x' (prows u x (prows m y []))) wq1 from ST31.out.leaveN (inC (at_ 0 rfl) (inC (at_ 1 rfl) inN)) hst2)
            clear hst2 ST31
            go_wp2_with fail
            refine ⟨⟨⟨wq1, ⟨ST32.out.blkAt 2 rfl, ST32.out.blkAt 3 rfl⟩⟩, rfl⟩, ?_⟩
            refine wpV_q (by simp only [List.getElem?_toArray, List.getElem?_cons_succ, List.getElem?_cons_zero] <;> rfl) (by rfl) (by rfl) ?_
            refine wpQuiet_loadH (by rfl) 77 _ (by rfl) b4 0 (by rfl) (Array.toList (m.rarr y)) _ (fun w ⟨z, hz⟩ => hz ▸ blk_range z.ok.1) Try.underlying77 rfl Try.infoRPeers ?_
            refine wpQuiet_nil ?_
            simp only [Act.put, List.setIfInBounds_toArray, List.set_cons_succ, List.set_cons_zero]
            refine wpV_q (by simp only [List.getElem?_toArray, List.getElem?_cons_succ, List.getElem?_cons_zero] <;> rfl) (by rfl) (by rfl) ?_
            go_big_quiet_step (fail)
            refine wpQuiet_nil ?_
            refine wpV_e (by simp only [List.getElem?_toArray, List.getElem?_cons_succ, List.getElem?_cons_zero] <;> rfl) (by rfl) ?_
            go_wp2_with fail
            refine (CM.out _ _ (ST32.out.enterN (prows m y []) (inC (at_ 4 rfl) (inC (at_ 5 rfl) inN)))).mono ?_
            intro e wq2 hst
            obtain ⟨y', rfl, hst2⟩ := hst
            have ST33 := Lib.hid (show Sta w1 (fun _ => True) (.pointer none) [] [⟨b8, m.rarr y, 77⟩, ⟨b7, u.arr x, 74⟩, ⟨b4, m.rarr y, 77⟩, ⟨b3, u.arr x, 74⟩] [] (prows m' y' (prows u' x' (prows u x (prows m y [])))) wq2 from ST32.out.leaveN (inC (at_ 4 rfl) (inC (at_ 5 rfl) inN)) hst2)
            clear hst2 ST32
            go_wp2_with fail
            refine ⟨⟨⟨wq2, ⟨ST33.out.blkAt 2 rfl, ST33.out.blkAt 3 rfl⟩⟩, rfl⟩, ?_⟩
            refine wpV_done ?_
            refine tailT_open (fun w' => ∃ z : WC (fun _ => True), w' = z.val) ⟨⟨_, trivial⟩, rfl⟩ ?_
            clear this 
            refine wpT_e (by simp only [List.getElem?_toArray, List.getElem?_cons_succ, List.getElem?_cons_zero] <;> rfl) (by rfl) ?_
            refine wpList_storeW (vs := u'.arr x') (ST33.out.blkAt 3 rfl) (by rfl) 74 _ _ (by rfl) (by rfl) (by rfl) rfl Try.infoPeers (by rw [← Array.all_toList]; rfl) ?_
            intro wq3 f_ b_
            have ST34 := Lib.hid (show Sta w1 (fun _ => True) (.pointer none) [] [⟨b8, m.rarr y, 77⟩, ⟨b7, u.arr x, 74⟩, ⟨b4, m.rarr y, 77⟩, ⟨b3, u'.arr x', 74⟩] [] (prows m' y' (prows u' x' (prows u x (prows m y [])))) wq3 from ST33.out.store 3 rfl f_ b_)
            clear ST33 f_ b_
            refine wpList_nil ?_
            refine ⟨⟨⟨wq3, trivial⟩, rfl⟩, ?_⟩
            simp only [Act.put]
            refine wpT_e (by simp only [List.getElem?_toArray, List.getElem?_cons_succ, List.getElem?_cons_zero] <;> rfl) (by rfl) ?_
            refine wpList_storeW (vs := m'.rarr y') (ST34.out.blkAt 2 rfl) (by rfl) 77 _ _ (by rfl) (by rfl) (by rfl) rfl Try.infoRPeers (by rw [← Array.all_toList]; rfl) ?_
            intro wq4 f_ b_
            have ST35 := Lib.hid (show Sta w1 (fun _ => True) (.pointer none) [] [⟨b8, m.rarr y, 77⟩, ⟨b7, u.arr x, 74⟩, ⟨b4, m'.rarr y', 77⟩, ⟨b3, u'.arr x', 74⟩] [] (prows m' y' (prows u' x' (prows u x (prows m y [])))) wq4 from ST34.out.store 2 rfl f_ b_)
            clear ST34 f_ b_
            refine wpList_nil ?_
            refine ⟨⟨⟨wq4, trivial⟩, rfl⟩, ?_⟩
            simp only [Act.put]
            refine wpT_nil ?_
            clear CU CM HFEW
            have Y1 := Lib.hid (fun w (f : Gr wq4 w) => psSame_any u' m' x' y' _ w ((ST35.out.gr f).enterN (prows u' x' (prows m' y' [])) (inC (at_ 2 rfl) (inC (at_ 3 rfl) (inC (at_ 0 rfl) (inC (at_ 1 rfl) inN))))) HL2.out HG2.out)
            have Y2 := Lib.hid (fun w (f : Gr wq4 w) => psSame_any u m x y _ w ((ST35.out.gr f).enterN (prows u x (prows m y [])) (inC (at_ 4 rfl) (inC (at_ 5 rfl) (inC (at_ 6 rfl) (inC (at_ 7 rfl) inN))))) HLK.out HG.out)
            go_upto_region 21 with fail
            have p0 : wq4.cell? ⟨b3, 0, none⟩ = some (.slice x'.ea u'.e.length x'.ec) := ST35.out.cell 3 0 rfl rfl
            have p1 : wq4.cell? ⟨b3, 1, none⟩ = some (.int .i64 64) := ST35.out.cell 3 1 rfl rfl
            have p2 : wq4.cell? ⟨b3, 2, none⟩ = some (.slice x'.za u'.z.length x'.zc) := ST35.out.cell 3 2 rfl rfl
            have p3 : wq4.cell? ⟨b3, 3, none⟩ = some (.int .i64 64) := ST35.out.cell 3 3 rfl rfl
            have q0 : wq4.cell? ⟨b4, 0, none⟩ = some (.slice y'.ea m'.e.length y'.ec) := ST35.out.cell 2 0 rfl rfl
            have q1 : wq4.cell? ⟨b4, 1, none⟩ = some (.slice y'.za m'.z.length y'.zc) := ST35.out.cell 2 1 rfl rfl
            go_wp2_with fail
            refine (Y1.out _ (Fr.refl _ _)).mono ?_
            rintro e w7_ ⟨rfl, f_⟩
            clear p0 p1 p2 p3 q0 q1 Y1
            have F7 := Lib.hid f_
            have ST36 := Lib.hid (show Sta w1 (fun _ => True) (.pointer none) [] [⟨b8, m.rarr y, 77⟩, ⟨b7, u.arr x, 74⟩, ⟨b4, m'.rarr y', 77⟩, ⟨b3, u'.arr x', 74⟩] [] (prows m' y' (prows u' x' (prows u x (prows m y [])))) w7_ from ST35.out.gr f_)
            clear ST35 f_
            have v0 : w7_.cell? ⟨b7, 0, none⟩ = some (.slice x.ea u.e.length x.ec) := ST36.out.cell 1 0 rfl rfl
            have v1 : w7_.cell? ⟨b7, 1, none⟩ = some (.int .i64 64) := ST36.out.cell 1 1 rfl rfl
            have v2 : w7_.cell? ⟨b7, 2, none⟩ = some (.slice x.za u.z.length x.zc) := ST36.out.cell 1 2 rfl rfl
            have v3 : w7_.cell? ⟨b7, 3, none⟩ = some (.int .i64 64) := ST36.out.cell 1 3 rfl rfl
            have z0 : w7_.cell? ⟨b8, 0, none⟩ = some (.slice y.ea m.e.length y.ec) := ST36.out.cell 0 0 rfl rfl
            have z1 : w7_.cell? ⟨b8, 1, none⟩ = some (.slice y.za m.z.length y.zc) := ST36.out.cell 0 1 rfl rfl
            go_wp2_with fail
            refine (Y2.out _ F7.out).mono ?_
            rintro e w8_ ⟨rfl, f_⟩
            clear v0 v1 v2 v3 z0 z1 Y2 F7
            have ST37 := Lib.hid (show Sta w1 (fun _ => True) (.pointer none) [] [⟨b8, m.rarr y, 77⟩, ⟨b7, u.arr x, 74⟩, ⟨b4, m'.rarr y', 77⟩, ⟨b3, u'.arr x', 74⟩] [] (prows m' y' (prows u' x' (prows u x (prows m y [])))) w8_ from ST36.out.gr f_)
            clear ST36 f_
            go_wp2_with fail
            go_roundw
            case rel => exact ⟨k + 1, u', x', m', y', by go_num, hlt, HG2.out, HL2.out, (ST37.out.lessB (List.Sublist.cons _ (List.Sublist.cons _ (List.Sublist.refl _)))).less (List.Sublist.refl _) (inC (at_ 2 rfl) (inC (at_ 3 rfl) (inC (at_ 0 rfl) (inC (at_ 1 rfl) inN))))⟩
            case measure => simp [intOf]; omega
          have t2 : (r2 == 2) = false := by simpa using h2
          by_cases h3 : r2 = 3
          · have t3 : (r2 == 3) = true := by simpa using h3
            obtain ⟨u', ca, hu_⟩ : ∃ v c, pePrune u n = (v, c) := ⟨_, _, rfl⟩
            obtain ⟨m', cb, hm_⟩ : ∃ v c, rpPrune m n = (v, c) := ⟨_, _, rfl⟩
            have hg2 := HG.out.prune n
            have hl2 := HLK.out.prune HG.out n
            have CU := Lib.hid (fun O w h => peersPrune_any u x n O w h HG.out)
            have CM := Lib.hid (fun O w h => rpPrune_any m y n O w h HFEW.out)
            rw [hu_] at hg2 hl2 CU
            rw [hm_] at hl2 CM
            simp only at hg2 hl2 CU CM
            obtain ⟨hl2, rfl⟩ := hl2
            have HG2 := Lib.hid hg2
            have HL2 := Lib.hid hl2
            clear hu_ hm_ hg2 hl2
            clear h2 h3
            go_upto_region 16 with fail
            clear t2 t3 hr1_ hr2_ ra rb rc rd c0
            refine wp_region_lit ?_
            refine wpList_load_mid (by rfl) 74 _ (by rfl) b3 0 (by rfl) (Array.toList (u.arr x)) _ (blk_range (ST30.out.blkAt 3 rfl)) Try.underlying74 rfl Try.infoPeers ?_
            go_wp2_with fail
            refine (CU.out _ _ (ST30.out.enterN (prows u x []) (inC (at_ 0 rfl) (inC (at_ 1 rfl) inN)))).mono ?_
            intro e wq1 hst
            obtain ⟨x', rfl, hst2⟩ := hst
            have ST31 := Lib.hid (show Sta w1 (fun _ => True) (.pointer none) [] [⟨b8, m.rarr y, 77⟩, ⟨b7, u.arr x, 74⟩, ⟨b4, m.rarr y, 77⟩, ⟨b3, u.arr x, 74⟩] [] (prows u' x' (prows u x (prows m y []))) wq1 from ST30.out.leaveN (inC (at_ 0 rfl) (inC (at_ 1 rfl) inN)) hst2)
            clear hst2 ST30
            go_wp2_with (refine wpList_storeW (vs := u'.arr x') (ST31.out.blkAt 3 rfl) (by rfl) 74 _ _ (by rfl) (by rfl) (by rfl) rfl Try.infoPeers (by rw [← Array.all_toList]; rfl) ?_)
            intro wq2 f_ b_
            have ST32 := Lib.hid (show Sta w1 (fun _ => True) (.pointer none) [] [⟨b8, m.rarr y, 77⟩, ⟨b7, u.arr x, 74⟩, ⟨b4, m.rarr y, 77⟩, ⟨b3, u'.arr x', 74⟩] [] (prows u' x' (prows u x (prows m y []))) wq2 from ST31.out.store 3 rfl f_ b_)
            clear ST31 f_ b_
            go_upto_region 17 with fail
            refine wp_region_lit ?_
            refine wpList_load_mid (by rfl) 77 _ (by rfl) b4 0 (by rfl) (Array.toList (m.rarr y)) _ (blk_range (ST32.out.blkAt 2 rfl)) Try.underlying77 rfl Try.infoRPeers ?_
            go_wp2_with fail
            refine (CM.out _ _ (ST32.out.enterN (prows m y []) (inC (at_ 4 rfl) (inC (at_ 5 rfl) inN)))).mono ?_
            intro e wq3 hst
            obtain ⟨y', rfl, hst2⟩ := hst
            have ST33 := Lib.hid (show Sta w1 (fun _ => True) (.pointer none) [] [⟨b8, m.rarr y, 77⟩, ⟨b7, u.arr x, 74⟩, ⟨b4, m.rarr y, 77⟩, ⟨b3, u'.arr x', 74⟩] [] (prows m' y' (prows u' x' (prows u x (prows m y [])))) wq3 from ST32.out.leaveN (inC (at_ 4 rfl) (inC (at_ 5 rfl) inN)) hst2)
            clear hst2 ST32
            go_wp2_with (refine wpList_storeW (vs := m'.rarr y') (ST33.out.blkAt 2 rfl) (by rfl) 77 _ _ (by rfl) (by rfl) (by rfl) rfl Try.infoRPeers (by rw [← Array.all_toList]; rfl) ?_)
            intro wq4 f_ b_
            have ST34 := Lib.hid (show Sta w1 (fun _ => True) (.pointer none) [] [⟨b8, m.rarr y, 77⟩, ⟨b7, u.arr x, 74⟩, ⟨b4, m'.rarr y', 77⟩, ⟨b3, u'.arr x', 74⟩] [] (prows m' y' (prows u' x' (prows u x (prows m y [])))) wq4 from ST33.out.store 2 rfl f_ b_)
            clear ST33 f_ b_
            clear CU CM HFEW
            have Y1 := Lib.hid (fun w (f : Gr wq4 w) => psSame_any u' m' x' y' _ w ((ST34.out.gr f).enterN (prows u' x' (prows m' y' [])) (inC (at_ 2 rfl) (inC (at_ 3 rfl) (inC (at_ 0 rfl) (inC (at_ 1 rfl) inN))))) HL2.out HG2.out)
            have Y2 := Lib.hid (fun w (f : Gr wq4 w) => psSame_any u m x y _ w ((ST34.out.gr f).enterN (prows u x (prows m y [])) (inC (at_ 4 rfl) (inC (at_ 5 rfl) (inC (at_ 6 rfl) (inC (at_ 7 rfl) inN))))) HLK.out HG.out)
            go_upto_region 21 with fail
            have p0 : wq4.cell? ⟨b3, 0, none⟩ = some (.slice x'.ea u'.e.length x'.ec) := ST34.out.cell 3 0 rfl rfl
            have p1 : wq4.cell? ⟨b3, 1, none⟩ = some (.int .i64 64) := ST34.out.cell 3 1 rfl rfl
            have p2 : wq4.cell? ⟨b3, 2, none⟩ = some (.slice x'.za u'.z.length x'.zc) := ST34.out.cell 3 2 rfl rfl
            have p3 : wq4.cell? ⟨b3, 3, none⟩ = some (.int .i64 64) := ST34.out.cell 3 3 rfl rfl
            have q0 : wq4.cell? ⟨b4, 0, none⟩ = some (.slice y'.ea m'.e.length y'.ec) := ST34.out.cell 2 0 rfl rfl
            have q1 : wq4.cell? ⟨b4, 1, none⟩ = some (.slice y'.za m'.z.length y'.zc) := ST34.out.cell 2 1 rfl rfl
            go_wp2_with fail
            refine (Y1.out _ (Fr.refl _ _)).mono ?_
            rintro e w7_ ⟨rfl, f_⟩
            clear p0 p1 p2 p3 q0 q1 Y1
            have F7 := Lib.hid f_
            have ST35 := Lib.hid (show Sta w1 (fun _ => True) (.pointer none) [] [⟨b8, m.rarr y, 77⟩, ⟨b7, u.arr x, 74⟩, ⟨b4, m'.rarr y', 77⟩, ⟨b3, u'.arr x', 74⟩] [] (prows m' y' (prows u' x' (prows u x (prows m y [])))) w7_ from ST34.out.gr f_)
            clear ST34 f_
            have v0 : w7_.cell? ⟨b7, 0, none⟩ = some (.slice x.ea u.e.length x.ec) := ST35.out.cell 1 0 rfl rfl
            have v1 : w7_.cell? ⟨b7, 1, none⟩ = some (.int .i64 64) := ST35.out.cell 1 1 rfl rfl
            have v2 : w7_.cell? ⟨b7, 2, none⟩ = some (.slice x.za u.z.length x.zc) := ST35.out.cell 1 2 rfl rfl
            have v3 : w7_.cell? ⟨b7, 3, none⟩ = some (.int .i64 64) := ST35.out.cell 1 3 rfl rfl
            have z0 : w7_.cell? ⟨b8, 0, none⟩ = some (.slice y.ea m.e.length y.ec) := ST35.out.cell 0 0 rfl rfl
            have z1 : w7_.cell? ⟨b8, 1, none⟩ = some (.slice y.za m.z.length y.zc) := ST35.out.cell 0 1 rfl rfl
            go_wp2_with fail
            refine (Y2.out _ F7.out).mono ?_
            rintro e w8_ ⟨rfl, f_⟩
            clear v0 v1 v2 v3 z0 z1 Y2 F7
            have ST36 := Lib.hid (show Sta w1 (fun _ => True) (.pointer none) [] [⟨b8, m.rarr y, 77⟩, ⟨b7, u.arr x, 74⟩, ⟨b4, m'.rarr y', 77⟩, ⟨b3, u'.arr x', 74⟩] [] (prows m' y' (prows u' x' (prows u x (prows m y [])))) w8_ from ST35.out.gr f_)
            clear ST35 f_
            go_wp2_with fail
            go_roundw
            case rel => exact ⟨k + 1, u', x', m', y', by go_num, hlt, HG2.out, HL2.out, (ST36.out.lessB (List.Sublist.cons _ (List.Sublist.cons _ (List.Sublist.refl _)))).less (List.Sublist.refl _) (inC (at_ 2 rfl) (inC (at_ 3 rfl) (inC (at_ 0 rfl) (inC (at_ 1 rfl) inN))))⟩
            case measure => simp [intOf]; omega
          have t3 : (r2 == 3) = false := by simpa using h3
          by_cases h4 : r2 = 4
          · have t4 : (r2 == 4) = true := by simpa using h4
            obtain ⟨u', hu_⟩ : ∃ v, v = peGraft u n := ⟨_, rfl⟩
            obtain ⟨m', cb, hm_⟩ : ∃ v c, rpGraft m n = (v, c) := ⟨_, _, rfl⟩
            have hg2 := HG.out.graft n
            have hl2 := HLK.out.graft HG.out n
            have CU := Lib.hid (fun O w h => peersGraft_any u x n O w h HG.out)
            have CM := Lib.hid (fun O w h => rpGraft_any m y n O w h HFEW.out)
            rw [← hu_] at hg2 hl2 CU
            rw [hm_] at hl2 CM
            simp only at hg2 hl2 CU CM
            obtain ⟨hl2, hcb⟩ := hl2
            rw [← hcb] at CU
            clear hcb
            have HG2 := Lib.hid hg2
            have HL2 := Lib.hid hl2
            clear hu_ hm_ hg2 hl2
            clear h2 h3 h4
            go_upto_region 19 with fail
            clear t2 t3 t4 hr1_ hr2_ ra rb rc rd c0
            refine wp_region_lit ?_
            refine wpList_load_mid (by rfl) 74 _ (by rfl) b3 0 (by rfl) (Array.toList (u.arr x)) _ (blk_range (ST30.out.blkAt 3 rfl)) Try.underlying74 rfl Try.infoPeers ?_
            go_wp2_with fail
            refine (CU.out _ _ (ST30.out.enterN (prows u x []) (inC (at_ 0 rfl) (inC (at_ 1 rfl) inN)))).mono ?_
            intro e wq1 hst
            obtain ⟨x', rfl, hst2⟩ := hst
            have ST31 := Lib.hid (show Sta w1 (fun _ => True) (.pointer none) [] [⟨b8, m.rarr y, 77⟩, ⟨b7, u.arr x, 74⟩, ⟨b4, m.rarr y, 77⟩, ⟨b3, u.arr x, 74⟩] [] (prows u' x' (prows u x (prows m y []))) wq1 from ST30.out.leaveN (inC (at_ 0 rfl) (inC (at_ 1 rfl) inN)) hst2)
            clear hst2 ST30
            go_wp2_with (refine wpList_storeW (vs := u'.arr x') (ST31.out.blkAt 3 rfl) (by rfl) 74 _ _ (by rfl) (by rfl) (by rfl) rfl Try.infoPeers (by rw [← Array.all_toList]; rfl) ?_)
            intro wq2 f_ b_
            have ST32 := Lib.hid (show Sta w1 (fun _ => True) (.pointer none) [] [⟨b8, m.rarr y, 77⟩, ⟨b7, u.arr x, 74⟩, ⟨b4, m.rarr y, 77⟩, ⟨b3, u'.arr x', 74⟩] [] (prows u' x' (prows u x (prows m y []))) wq2 from ST31.out.store 3 rfl f_ b_)
            clear ST31 f_ b_
            go_upto_region 20 with fail
            refine wp_region_lit ?_
            refine wpList_load_mid (by rfl) 77 _ (by rfl) b4 0 (by rfl) (Array.toList (m.rarr y)) _ (blk_range (ST32.out.blkAt 2 rfl)) Try.underlying77 rfl Try.infoRPeers ?_
            go_wp2_with fail
            refine (CM.out _ _ (ST32.out.enterN (prows m y []) (inC (at_ 4 rfl) (inC (at_ 5 rfl) inN)))).mono ?_
            intro e wq3 hst
            obtain ⟨y', rfl, hst2⟩ := hst
            have ST33 := Lib.hid (show Sta w1 (fun _ => True) (.pointer none) [] [⟨b8, m.rarr y, 77⟩, ⟨b7, u.arr x, 74⟩, ⟨b4, m.rarr y, 77⟩, ⟨b3, u'.arr x', 74⟩] [] (prows m' y' (prows u' x' (prows u x (prows m y [])))) wq3 from ST32.out.leaveN (inC (at_ 4 rfl) (inC (at_ 5 rfl) inN)) hst2)
            clear hst2 ST32
            go_wp2_with (refine wpList_storeW (vs := m'.rarr y') (ST33.out.blkAt 2 rfl) (by rfl) 77 _ _ (by rfl) (by rfl) (by rfl) rfl Try.infoRPeers (by rw [← Array.all_toList]; rfl) ?_)
            intro wq4 f_ b_
            have ST34 := Lib.hid (show Sta w1 (fun _ => True) (.pointer none) [] [⟨b8, m.rarr y, 77⟩, ⟨b7, u.arr x, 74⟩, ⟨b4, m'.rarr y', 77⟩, ⟨b3, u'.arr x', 74⟩] [] (prows m' y' (prows u' x' (prows u x (prows m y [])))) wq4 from ST33.out.store 2 rfl f_ b_)
            clear ST33 f_ b_
            clear CU CM HFEW
            have Y1 := Lib.hid (fun w (f : Gr wq4 w) => psSame_any u' m' x' y' _ w ((ST34.out.gr f).enterN (prows u' x' (prows m' y' [])) (inC (at_ 2 rfl) (inC (at_ 3 rfl) (inC (at_ 0 rfl) (inC (at_ 1 rfl) inN))))) HL2.out HG2.out)
            have Y2 := Lib.hid (fun w (f : Gr wq4 w) => psSame_any u m x y _ w ((ST34.out.gr f).enterN (prows u x (prows m y [])) (inC (at_ 4 rfl) (inC (at_ 5 rfl) (inC (at_ 6 rfl) (inC (at_ 7 rfl) inN))))) HLK.out HG.out)
            go_upto_region 21 with fail
            have p0 : wq4.cell? ⟨b3, 0, none⟩ = some (.slice x'.ea u'.e.length x'.ec) := ST34.out.cell 3 0 rfl rfl
            have p1 : wq4.cell? ⟨b3, 1, none⟩ = some (.int .i64 64) := ST34.out.cell 3 1 rfl rfl
            have p2 : wq4.cell? ⟨b3, 2, none⟩ = some (.slice x'.za u'.z.length x'.zc) := ST34.out.cell 3 2 rfl rfl
            have p3 : wq4.cell? ⟨b3, 3, none⟩ = some (.int .i64 64) := ST34.out.cell 3 3 rfl rfl
            have q0 : wq4.cell? ⟨b4, 0, none⟩ = some (.slice y'.ea m'.e.length y'.ec) := ST34.out.cell 2 0 rfl rfl
            have q1 : wq4.cell? ⟨b4, 1, none⟩ = some (.slice y'.za m'.z.length y'.zc) := ST34.out.cell 2 1 rfl rfl
            go_wp2_with fail
            refine (Y1.out _ (Fr.refl _ _)).mono ?_
            rintro e w7_ ⟨rfl, f_⟩
            clear p0 p1 p2 p3 q0 q1 Y1
            have F7 := Lib.hid f_
            have ST35 := Lib.hid (show Sta w1 (fun _ => True) (.pointer none) [] [⟨b8, m.rarr y, 77⟩, ⟨b7, u.arr x, 74⟩, ⟨b4, m'.rarr y', 77⟩, ⟨b3, u'.arr x', 74⟩] [] (prows m' y' (prows u' x' (prows u x (prows m y [])))) w7_ from ST34.out.gr f_)
            clear ST34 f_
            have v0 : w7_.cell? ⟨b7, 0, none⟩ = some (.slice x.ea u.e.length x.ec) := ST35.out.cell 1 0 rfl rfl
            have v1 : w7_.cell? ⟨b7, 1, none⟩ = some (.int .i64 64) := ST35.out.cell 1 1 rfl rfl
            have v2 : w7_.cell? ⟨b7, 2, none⟩ = some (.slice x.za u.z.length x.zc) := ST35.out.cell 1 2 rfl rfl
            have v3 : w7_.cell? ⟨b7, 3, none⟩ = some (.int .i64 64) := ST35.out.cell 1 3 rfl rfl
            have z0 : w7_.cell? ⟨b8, 0, none⟩ = some (.slice y.ea m.e.length y.ec) := ST35.out.cell 0 0 rfl rfl
            have z1 : w7_.cell? ⟨b8, 1, none⟩ = some (.slice y.za m.z.length y.zc) := ST35.out.cell 0 1 rfl rfl
            go_wp2_with fail
            refine (Y2.out _ F7.out).mono ?_
            rintro e w8_ ⟨rfl, f_⟩
            clear v0 v1 v2 v3 z0 z1 Y2 F7
            have ST36 := Lib.hid (show Sta w1 (fun _ => True) (.pointer none) [] [⟨b8, m.rarr y, 77⟩, ⟨b7, u.arr x, 74⟩, ⟨b4, m'.rarr y', 77⟩, ⟨b3, u'.arr x', 74⟩] [] (prows m' y' (prows u' x' (prows u x (prows m y [])))) w8_ from ST35.out.gr f_)
            clear ST35 f_
            go_wp2_with fail
            go_roundw
            case rel => exact ⟨k + 1, u', x', m', y', by go_num, hlt, HG2.out, HL2.out, (ST36.out.lessB (List.Sublist.cons _ (List.Sublist.cons _ (List.Sublist.refl _)))).less (List.Sublist.refl _) (inC (at_ 2 rfl) (inC (at_ 3 rfl) (inC (at_ 0 rfl) (inC (at_ 1 rfl) inN))))⟩
            case measure => simp [intOf]; omega
          have t4 : (r2 == 4) = false := by simpa using h4
          obtain ⟨u', hu_⟩ : ∃ v, v = peUp u n := ⟨_, rfl⟩
          obtain ⟨m', hm_⟩ : ∃ v, v = rpUp m n := ⟨_, rfl⟩
          have HG2 := Lib.hid (show u'.Good by rw [hu_]; exact HG.out.up n)
          have HL2 := Lib.hid (show PLike u' m' by rw [hu_, hm_]; exact HLK.out.up n)
          have CU := Lib.hid (fun O w h => (hu_ ▸ peersUp_any u x n O w h HG.out : Calls Try.prog _ _ w (PEnd w O u' (fun a => .agg a))))
          have CM := Lib.hid (fun O w h => (hm_ ▸ rpUp_any m y n O w h HFEW.out : Calls Try.prog _ _ w (RPEnd w O m' (fun a => .agg a))))
          clear hu_ hm_
          clear h2 h3 h4
          go_upto_region 12 with fail
          clear t2 t3 t4 hr1_ hr2_ ra rb rc rd c0
          obtain ⟨wd, hwd⟩ : ∃ x, x = wv.drew := ⟨_, rfl⟩
          have HWD := Lib.hid hwd
          have ST31 := Lib.hid (show Sta w1 (fun _ => True) (.pointer none) [] [⟨b8, m.rarr y, 77⟩, ⟨b7, u.arr x, 74⟩, ⟨b4, m.rarr y, 77⟩, ⟨b3, u.arr x, 74⟩] [] (prows u x (prows m y [])) wd from hwd ▸ ST30.out.gr ((Fr.refl _ _).drew))
          clear ST30 hwd
          haveI : Nonempty (WC (fun w => w.heap[b4]? = some (.cells (m.rarr y) 77 (0, 0)) ∧ w.heap[b3]? = some (.cells (u.arr x) 74 (0, 0)))) := ⟨⟨wd, ⟨ST31.out.blkAt 2 rfl, ST31.out.blkAt 3 rfl⟩⟩⟩
          refine wp_region_tail 6 2 [2, 5] (Plan.seq [0, 1, 2, 3, 4, 5] .done) [6, 7] [6, 7] (fun w' => ∃ z : WC (fun w => w.heap[b4]? = some (.cells (m.rarr y) 77 (0, 0)) ∧ w.heap[b3]? = some (.cells (u.arr x) 74 (0, 0))), w' = z.val) (by kernel_rfl) (by kernel_rfl) (fun c a w d v h => by cases d <;> exact h) (fun c a w d v h => by cases d <;> exact h) (by rw [← HWD.out]; exact ⟨⟨wd, ⟨ST31.out.blkAt 2 rfl, ST31.out.blkAt 3 rfl⟩⟩, rfl⟩) ?_
          rw [← HWD.out]
          clear HWD
          simp only [List.take]
          refine wpV_q (by simp only [List.getElem?_toArray, List.getElem?_cons_zero] <;> rfl) (by rfl) (by rfl) ?_
          refine wpQuiet_loadH (by rfl) 74 _ (by rfl) b3 0 (by rfl) (Array.toList (u.arr x)) _ (fun w ⟨z, hz⟩ => hz ▸ blk_range z.ok.2) Try.underlying74 rfl Try.infoPeers ?_
          refine wpQuiet_nil ?_
          simp only [Act.put, List.setIfInBounds_toArray, List.set_cons_succ, List.set_cons_zero]
          refine wpV_q (by simp only [List.getElem?_toArray, List.getElem?_cons_succ, List.getElem?_cons_zero] <;> rfl) (by rfl) (by rfl) ?_
          go_big_quiet_step (fail)
          refine wpQuiet_nil ?_
          refine wpV_e (by simp only [List.getElem?_toArray, List.getElem?_cons_succ, List.getElem?_cons_zero] <;> rfl) (by rfl) ?_
          go_wp2_with fail
          refine (CU.out _ _ (ST31.out.enterN (prows u x []) (inC (at_ 0 rfl) (inC (at_ 1 rfl) inN)))).mono ?_
          intro e wq1 hst
          obtain ⟨x', rfl, hst2⟩ := hst
          have ST32 := Lib.hid (show Sta w1 (fun _ => True) (.pointer none) [] [⟨b8, m.rarr y, 77⟩, ⟨b7, u.arr x, 74⟩, ⟨b4, m.rarr y, 77⟩, ⟨b3, u.arr x, 74⟩] [] (prows u' x' (prows u x (prows m y []))) wq1 from ST31.out.leaveN (inC (at_ 0 rfl) (inC (at_ 1 rfl) inN)) hst2)
          clear hst2 ST31
          go_wp2_with fail
          refine ⟨⟨⟨wq1, ⟨ST32.out.blkAt 2 rfl, ST32.out.blkAt 3 rfl⟩⟩, rfl⟩, ?_⟩
          refine wpV_q (by simp only [List.getElem?_toArray, List.getElem?_cons_succ, List.getElem?_cons_zero] <;> rfl) (by rfl) (by rfl) ?_
          refine wpQuiet_loadH (by rfl) 77 _ (by rfl) b4 0 (by rfl) (Array.toList (m.rarr y)) _ (fun w ⟨z, hz⟩ => hz ▸ blk_range z.ok.1) Try.underlying77 rfl Try.infoRPeers ?_
          refine wpQuiet_nil ?_
          simp only [Act.put, List.setIfInBounds_toArray, List.set_cons_succ, List.set_cons_zero]
          refine wpV_q (by simp only [List.getElem?_toArray, List.getElem?_cons_succ, List.getElem?_cons_zero] <;> rfl) (by rfl) (by rfl) ?_
          go_big_quiet_step (fail)
          refine wpQuiet_nil ?_
          refine wpV_e (by simp only [List.getElem?_toArray, List.getElem?_cons_succ, List.getElem?_cons_zero] <;> rfl) (by rfl) ?_
          go_wp2_with fail
          refine (CM.out _ _ (ST32.out.enterN (prows m y []) (inC (at_ 4 rfl) (inC (at_ 5 rfl) inN)))).mono ?_
          intro e wq2 hst
          obtain ⟨y', rfl, hst2⟩ := hst
          have ST33 := Lib.hid (show Sta w1 (fun _ => True) (.pointer none) [] [⟨b8, m.rarr y, 77⟩, ⟨b7, u.arr x, 74⟩, ⟨b4, m.rarr y, 77⟩, ⟨b3, u.arr x, 74⟩] [] (prows m' y' (prows u' x' (prows u x (prows m y [])))) wq2 from ST32.out.leaveN (inC (at_ 4 rfl) (inC (at_ 5 rfl) inN)) hst2)
          clear hst2 ST32
          go_wp2_with fail
          refine ⟨⟨⟨wq2, ⟨ST33.out.blkAt 2 rfl, ST33.out.blkAt 3 rfl⟩⟩, rfl⟩, ?_⟩
          refine wpV_done ?_
          refine tailT_open (fun w' => ∃ z : WC (fun _ => True), w' = z.val) ⟨⟨_, trivial⟩, rfl⟩ ?_
          clear this 
          refine wpT_e (by simp only [List.getElem?_toArray, List.getElem?_cons_succ, List.getElem?_cons_zero] <;> rfl) (by rfl) ?_
          refine wpList_storeW (vs := u'.arr x') (ST33.out.blkAt 3 rfl) (by rfl) 74 _ _ (by rfl) (by rfl) (by rfl) rfl Try.infoPeers (by rw [← Array.all_toList]; rfl) ?_
          intro wq3 f_ b_
          have ST34 := Lib.hid (show Sta w1 (fun _ => True) (.pointer none) [] [⟨b8, m.rarr y, 77⟩, ⟨b7, u.arr x, 74⟩, ⟨b4, m.rarr y, 77⟩, ⟨b3, u'.arr x', 74⟩] [] (prows m' y' (prows u' x' (prows u x (prows m y [])))) wq3 from ST33.out.store 3 rfl f_ b_)
          clear ST33 f_ b_
          refine wpList_nil ?_
          refine ⟨⟨⟨wq3, trivial⟩, rfl⟩, ?_⟩
          simp only [Act.put]
          refine wpT_e (by simp only [List.getElem?_toArray, List.getElem?_cons_succ, List.getElem?_cons_zero] <;> rfl) (by rfl) ?_
          refine wpList_storeW (vs := m'.rarr y') (ST34.out.blkAt 2 rfl) (by rfl) 77 _ _ (by rfl) (by rfl) (by rfl) rfl Try.infoRPeers (by rw [← Array.all_toList]; rfl) ?_
          intro wq4 f_ b_
          have ST35 := Lib.hid (show Sta w1 (fun _ => True) (.pointer none) [] [⟨b8, m.rarr y, 77⟩, ⟨b7, u.arr x, 74⟩, ⟨b4, m'.rarr y', 77⟩, ⟨b3, u'.arr x', 74⟩] [] (prows m' y' (prows u' x' (prows u x (prows m y [])))) wq4 from ST34.out.store 2 rfl f_ b_)
          clear ST34 f_ b_
          refine wpList_nil ?_
          refine ⟨⟨⟨wq4, trivial⟩, rfl⟩, ?_⟩
          simp only [Act.put]
          refine wpT_nil ?_
          clear CU CM HFEW
          have Y1 := Lib.hid (fun w (f : Gr wq4 w) => psSame_any u' m' x' y' _ w ((ST35.out.gr f).enterN (prows u' x' (prows m' y' [])) (inC (at_ 2 rfl) (inC (at_ 3 rfl) (inC (at_ 0 rfl) (inC (at_ 1 rfl) inN))))) HL2.out HG2.out)
          have Y2 := Lib.hid (fun w (f : Gr wq4 w) => psSame_any u m x y _ w ((ST35.out.gr f).enterN (prows u x (prows m y [])) (inC (at_ 4 rfl) (inC (at_ 5 rfl) (inC (at_ 6 rfl) (inC (at_ 7 rfl) inN))))) HLK.out HG.out)
          go_upto_region 21 with fail
          have p0 : wq4.cell? ⟨b3, 0, none⟩ = some (.slice x'.ea u'.e.length x'.ec) := ST35.out.cell 3 0 rfl rfl
          have p1 : wq4.cell? ⟨b3, 1, none⟩ = some (.int .i64 64) := ST35.out.cell 3 1 rfl rfl
          have p2 : wq4.cell? ⟨b3, 2, none⟩ = some (.slice x'.za u'.z.length x'.zc) := ST35.out.cell 3 2 rfl rfl
          have p3 : wq4.cell? ⟨b3, 3, none⟩ = some (.int .i64 64) := ST35.out.cell 3 3 rfl rfl
          have q0 : wq4.cell? ⟨b4, 0, none⟩ = some (.slice y'.ea m'.e.length y'.ec) := ST35.out.cell 2 0 rfl rfl
          have q1 : wq4.cell? ⟨b4, 1, none⟩ = some (.slice y'.za m'.z.length y'.zc) := ST35.out.cell 2 1 rfl rfl
          go_wp2_with fail
          refine (Y1.out _ (Fr.refl _ _)).mono ?_
          rintro e w7_ ⟨rfl, f_⟩
          clear p0 p1 p2 p3 q0 q1 Y1
          have F7 := Lib.hid f_
          have ST36 := Lib.hid (show Sta w1 (fun _ => True) (.pointer none) [] [⟨b8, m.rarr y, 77⟩, ⟨b7, u.arr x, 74⟩, ⟨b4, m'.rarr y', 77⟩, ⟨b3, u'.arr x', 74⟩] [] (prows m' y' (prows u' x' (prows u x (prows m y [])))) w7_ from ST35.out.gr f_)
          clear ST35 f_
          have v0 : w7_.cell? ⟨b7, 0, none⟩ = some (.slice x.ea u.e.length x.ec) := ST36.out.cell 1 0 rfl rfl
          have v1 : w7_.cell? ⟨b7, 1, none⟩ = some (.int .i64 64) := ST36.out.cell 1 1 rfl rfl
          have v2 : w7_.cell? ⟨b7, 2, none⟩ = some (.slice x.za u.z.length x.zc) := ST36.out.cell 1 2 rfl rfl
          have v3 : w7_.cell? ⟨b7, 3, none⟩ = some (.int .i64 64) := ST36.out.cell 1 3 rfl rfl
          have z0 : w7_.cell? ⟨b8, 0, none⟩ = some (.slice y.ea m.e.length y.ec) := ST36.out.cell 0 0 rfl rfl
          have z1 : w7_.cell? ⟨b8, 1, none⟩ = some (.slice y.za m.z.length y.zc) := ST36.out.cell 0 1 rfl rfl
          go_wp2_with fail
          refine (Y2.out _ F7.out).mono ?_
          rintro e w8_ ⟨rfl, f_⟩
          clear v0 v1 v2 v3 z0 z1 Y2 F7
          have ST37 := Lib.hid (show Sta w1 (fun _ => True) (.pointer none) [] [⟨b8, m.rarr y, 77⟩, ⟨b7, u.arr x, 74⟩, ⟨b4, m'.rarr y', 77⟩, ⟨b3, u'.arr x', 74⟩] [] (prows m' y' (prows u' x' (prows u x (prows m y [])))) w8_ from ST36.out.gr f_)
          clear ST36 f_
          go_wp2_with fail
          go_roundw
          case rel => exact ⟨k + 1, u', x', m', y', by go_num, hlt, HG2.out, HL2.out, (ST37.out.lessB (List.Sublist.cons _ (List.Sublist.cons _ (List.Sublist.refl _)))).less (List.Sublist.refl _) (inC (at_ 2 rfl) (inC (at_ 3 rfl) (inC (at_ 0 rfl) (inC (at_ 1 rfl) inN))))⟩
          case measure => simp [intOf]; omega
      · have d2 : decide ((k : Int) < 90) = false := decide_eq_false (by omega)
        have GX := Lib.hid (Gr.trans F1.out ST20.out.grW)
        clear ST20
        go_wp2_with fail
        go_ret
        exact ⟨rfl, GX.out⟩
    · have d1 : decide ((k : Int) < (L.length : Int)) = false := decide_eq_false (by omega)
      have GX := Lib.hid (Gr.trans F1.out ST20.out.grW)
      clear ST20
      go_wp2_with fail
      go_ret
      exact ⟨rfl, GX.out⟩
end Go.Proofs.Ytelepohdfcjnfaa
