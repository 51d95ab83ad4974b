/-
  The walk of HandShakes (printed by gen_hshakes.py).
-/
import Derived.Test.YtdpnkikaciigoaaHandSpk
import Derived.Test.YtdpnkikaciigoaaShakeLaw
import Derived.Test.YtdpnkikaciigoaaRegionW
import Derived.Deep.CutRange
import Derived.Deep.CutBlock
namespace Go.Proofs.Ytdpnkikaciigoaa
open Go.RowKit Go.Proofs

theorem Try.infoU8x4 : (Try.prog.info? 107).map (·.size) = some 4 := by kernel_rfl
theorem Try.infoU8s2 : (Try.prog.info? 108).map (·.size) = some 2 := by kernel_rfl
theorem u8_rem {x : Int} (h : 0 ≤ x ∧ x ≤ 255) (m : Int) (hm : 0 < m) : ∃ r, x.tmod m = r ∧ 0 ≤ r ∧ r < m := ⟨_, rfl, Int.tmod_nonneg m h.1, Int.tmod_lt_of_pos x hm⟩
set_option maxHeartbeats 16000000 in
set_option maxRecDepth 100000 in
theorem handShakes_walk (z0 z1 z2 z3 : Int) (a0 : Option Addr) (c0 : Nat) (l0 : List Int) (a1 : Option Addr) (c1 : Nat) (l1 : List Int) (high : Bool) (a2 : Option Addr) (c2 : Nat) (lc : List Int) (W : World)
    (hz0 : 0 ≤ z0 ∧ z0 ≤ 255) (hz1 : 0 ≤ z1 ∧ z1 ≤ 255) (hz2 : 0 ≤ z2 ∧ z2 ≤ 255) (hz3 : 0 ≤ z3 ∧ z3 ≤ 255) (h0 : SlA W a0 l0.length c0 (l0.map (Value.int .u8))) (hr0 : ∀ x ∈ l0, 0 ≤ x ∧ x ≤ 255) (h1 : SlA W a1 l1.length c1 (l1.map (Value.int .u8))) (hr1 : ∀ x ∈ l1, 0 ≤ x ∧ x ≤ 255)
    (hc : SlA W a2 lc.length c2 (lc.map (Value.int .u32))) (hcr : ∀ x ∈ lc, 0 ≤ x ∧ x < 4294967296) (hb : lc.length * 4 ≤ 140737488355328) :
    Calls Try.prog 11 #[.agg #[.int .u8 z0, .int .u8 z1, .int .u8 z2, .int .u8 z3, .slice a0 l0.length c0, .slice a1 l1.length c1, .bool high, .slice a2 lc.length c2]] W fun e w' => e = .returned (.bool true) ∧ Gr W w' := by
  obtain ⟨iz, hz1', hz2', hzs⟩ := info_pair Try.zeroHand
  obtain ⟨io, ho1, ho2, ho3⟩ := info_pair Try.zeroOutH
  obtain ⟨w0, hw0⟩ : ∃ w0, w0 = W.alloc (.cells #[.int .u8 z0, .int .u8 z1, .int .u8 z2, .int .u8 z3, .slice a0 l0.length c0, .slice a1 l1.length c1, .bool high, .slice a2 lc.length c2] 110) := ⟨_, rfl⟩
  obtain ⟨b0, hb0⟩ : ∃ b, b = W.heap.size := ⟨_, rfl⟩
  have ST1 := Lib.hid (show Sta W (fun _ => True) (.pointer none) [] [⟨b0, #[.int .u8 z0, .int .u8 z1, .int .u8 z2, .int .u8 z3, .slice a0 l0.length c0, .slice a1 l1.length c1, .bool high, .slice a2 lc.length c2], 110⟩] [] [] w0 by rw [hw0]; exact (Sta.initR (R := []) (fun _ h => nomatch h)).box _ _ hb0)
  have HW0 := Lib.hid hw0
  have HB0 := Lib.hid hb0
  have HZ := Lib.hid (And.intro hz0 (And.intro hz1 (And.intro hz2 hz3)))
  have HL0 := Lib.hid h0
  have HL1 := Lib.hid h1
  have HR0 := Lib.hid hr0
  have HR1 := Lib.hid hr1
  have HC := Lib.hid hc
  have HCR := Lib.hid hcr
  have HBB := Lib.hid hb
  have S0 := Lib.hid (speaks11_any w0)
  have e1 := h0.le
  have e2 := h0.max
  have e3 := h1.le
  have e4 := h1.max
  have e5 := hc.le
  have e6 := hc.max
  clear hw0 hb0 h0 h1 hc hcr hr0 hr1 hz0 hz1 hz2 hz3 hb
  go_enter Try.func11, Try.ntmps11
  go_upto_region 1 with fail
  rw [← HW0.out, ← HB0.out]
  clear HW0 HB0
  go_wp2_with fail
  refine S0.out.mono ?_
  rintro e w1 ⟨rfl, f_⟩
  clear S0
  have ST2 := Lib.hid (show Sta W (fun _ => True) (.pointer none) [] [⟨b0, #[.int .u8 z0, .int .u8 z1, .int .u8 z2, .int .u8 z3, .slice a0 l0.length c0, .slice a1 l1.length c1, .bool high, .slice a2 lc.length c2], 110⟩] [] ([]) w1 from ST1.out.gr f_)
  clear ST1 f_
  go_upto_region 3 with fail
  go_cut [3, 4, 5] from 18 to 23 (fun a b c wx => ∃ u3 u4, a = .pointer (some ⟨u3, 0, none⟩) ∧ b = .pointer (some ⟨u4, 0, none⟩) ∧ c = .bool high ∧ Sta W (fun _ => True) (.pointer none) [] [⟨u4, #[.slice a0 l0.length c0, .slice a1 l1.length c1], 108⟩, ⟨u3, #[.int .u8 z0, .int .u8 z1, .int .u8 z2, .int .u8 z3], 107⟩, ⟨b0, #[.int .u8 z0, .int .u8 z1, .int .u8 z2, .int .u8 z3, .slice a0 l0.length c0, .slice a1 l1.length c1, .bool high, .slice a2 lc.length c2], 110⟩] [] ([]) wx)
  case first =>
    obtain ⟨wd, hwd⟩ : ∃ x, x = w1.drew := ⟨_, rfl⟩
    have HWD := Lib.hid hwd
    have ST3 := Lib.hid (show Sta W (fun _ => True) (.pointer none) [] [⟨b0, #[.int .u8 z0, .int .u8 z1, .int .u8 z2, .int .u8 z3, .slice a0 l0.length c0, .slice a1 l1.length c1, .bool high, .slice a2 lc.length c2], 110⟩] [] ([]) wd from hwd ▸ ST2.out.gr ((Fr.refl _ _).drew))
    clear ST2 hwd
    haveI : Nonempty (WC (fun w => w.heap[b0]? = some (.cells (#[.int .u8 z0, .int .u8 z1, .int .u8 z2, .int .u8 z3, .slice a0 l0.length c0, .slice a1 l1.length c1, .bool high, .slice a2 lc.length c2]) 110 (0, 0)) ∧ w.cell? ⟨b0, 6, none⟩ = some (.bool high))) := ⟨⟨wd, ⟨ST3.out.blkAt 0 rfl, ST3.out.cell 0 6 rfl rfl⟩⟩⟩
    have zh : ∀ z : WC (fun w => w.heap[b0]? = some (.cells (#[.int .u8 z0, .int .u8 z1, .int .u8 z2, .int .u8 z3, .slice a0 l0.length c0, .slice a1 l1.length c1, .bool high, .slice a2 lc.length c2]) 110 (0, 0)) ∧ w.cell? ⟨b0, 6, none⟩ = some (.bool high)), z.val.cell? ⟨b0, 6, none⟩ = some (.bool high) := fun z => z.ok.2
    refine wp_region_plan [6, 7, 8, 9, 10] (Plan.seq [0, 1, 2, 3, 4, 5] (.fork 6 7 (Plan.seq [7, 8, 9, 10] .done) (Plan.seq [6, 8, 9, 10] .done))) (fun w' => ∃ z : WC (fun w => w.heap[b0]? = some (.cells (#[.int .u8 z0, .int .u8 z1, .int .u8 z2, .int .u8 z3, .slice a0 l0.length c0, .slice a1 l1.length c1, .bool high, .slice a2 lc.length c2]) 110 (0, 0)) ∧ w.cell? ⟨b0, 6, none⟩ = some (.bool high)), w' = z.val) (by kernel_rfl) (by kernel_rfl) (fun c a w d v h => by cases d <;> exact h) (fun c a w d v h => by cases d <;> exact h) (by rw [← HWD.out]; exact ⟨⟨wd, ⟨ST3.out.blkAt 0 rfl, ST3.out.cell 0 6 rfl rfl⟩⟩, rfl⟩) ?_
    rw [← HWD.out]
    clear HWD
    refine wpV_q (by simp only [List.getElem?_toArray, List.getElem?_cons_zero] <;> rfl) (by rfl) (by rfl) ?_
    go_big_quiet_step (fail)
    refine wpQuiet_nil ?_
    refine wpV_q (by simp only [List.getElem?_toArray, List.getElem?_cons_succ, List.getElem?_cons_zero] <;> rfl) (by rfl) (by rfl) ?_
    refine wpQuiet_loadH (by rfl) 107 _ (by rfl) b0 0 (by rfl) (Array.toList (#[.int .u8 z0, .int .u8 z1, .int .u8 z2, .int .u8 z3])) _ (fun w ⟨z, hz⟩ => hz ▸ rangeIn z.ok.1 0 (by rfl)) Try.underlying107 rfl Try.infoU8x4 ?_
    refine wpQuiet_nil ?_
    simp only [Act.put, List.setIfInBounds_toArray, List.set_cons_succ, List.set_cons_zero]
    refine wpV_q (by simp only [List.getElem?_toArray, List.getElem?_cons_succ, List.getElem?_cons_zero] <;> rfl) (by rfl) (by rfl) ?_
    go_big_quiet_step (fail)
    refine wpQuiet_nil ?_
    refine wpV_q (by simp only [List.getElem?_toArray, List.getElem?_cons_succ, List.getElem?_cons_zero] <;> rfl) (by rfl) (by rfl) ?_
    refine wpQuiet_loadH (by rfl) 108 _ (by rfl) b0 4 (by rfl) (Array.toList (#[.slice a0 l0.length c0, .slice a1 l1.length c1])) _ (fun w ⟨z, hz⟩ => hz ▸ rangeIn z.ok.1 4 (by rfl)) Try.underlying108 rfl Try.infoU8s2 ?_
    refine wpQuiet_nil ?_
    simp only [Act.put, List.setIfInBounds_toArray, List.set_cons_succ, List.set_cons_zero]
    refine wpV_q (by simp only [List.getElem?_toArray, List.getElem?_cons_succ, List.getElem?_cons_zero] <;> rfl) (by rfl) (by rfl) ?_
    go_big_quiet_step (fail)
    refine wpQuiet_nil ?_
    refine wpV_q (by simp only [List.getElem?_toArray, List.getElem?_cons_succ, List.getElem?_cons_zero] <;> rfl) (by rfl) (by rfl) ?_
    go_big_quiet_step (fail)
    refine wpQuiet_nil ?_
    refine wpV_fork (by simp only [List.getElem?_toArray, List.getElem?_cons_succ, List.getElem?_cons_zero] <;> rfl) (by simp only [List.getElem?_toArray, List.getElem?_cons_succ, List.getElem?_cons_zero] <;> rfl) ?_ ?_
    · go_wp2_with fail
      obtain ⟨wa, hw_⟩ : ∃ x, x = wd.alloc (.cells #[.int .u8 0, .int .u8 0, .int .u8 0, .int .u8 0] 107) := ⟨_, rfl⟩
      obtain ⟨u3, hb_⟩ : ∃ b, b = wd.heap.size := ⟨_, rfl⟩
      rw [← hw_, ← hb_]
      have ST4 := Lib.hid (show Sta W (fun _ => True) (.pointer none) [] [⟨u3, #[.int .u8 0, .int .u8 0, .int .u8 0, .int .u8 0], 107⟩, ⟨b0, #[.int .u8 z0, .int .u8 z1, .int .u8 z2, .int .u8 z3, .slice a0 l0.length c0, .slice a1 l1.length c1, .bool high, .slice a2 lc.length c2], 110⟩] [] ([]) wa from hw_ ▸ ST3.out.box _ _ hb_)
      clear ST3 hw_ hb_
      refine ⟨⟨⟨wa, ⟨ST4.out.blkAt 1 rfl, ST4.out.cell 1 6 rfl rfl⟩⟩, rfl⟩, ?_⟩
      refine wpV_e (by simp only [List.getElem?_toArray, List.getElem?_cons_succ, List.getElem?_cons_zero] <;> rfl) (by rfl) ?_
      go_wp2_with fail
      obtain ⟨wb, hw_⟩ : ∃ x, x = wa.alloc (.cells #[.slice none 0 0, .slice none 0 0] 108) := ⟨_, rfl⟩
      obtain ⟨u4, hb_⟩ : ∃ b, b = wa.heap.size := ⟨_, rfl⟩
      rw [← hw_, ← hb_]
      have ST5 := Lib.hid (show Sta W (fun _ => True) (.pointer none) [] [⟨u4, #[.slice none 0 0, .slice none 0 0], 108⟩, ⟨u3, #[.int .u8 0, .int .u8 0, .int .u8 0, .int .u8 0], 107⟩, ⟨b0, #[.int .u8 z0, .int .u8 z1, .int .u8 z2, .int .u8 z3, .slice a0 l0.length c0, .slice a1 l1.length c1, .bool high, .slice a2 lc.length c2], 110⟩] [] ([]) wb from hw_ ▸ ST4.out.box _ _ hb_)
      clear ST4 hw_ hb_
      refine ⟨⟨⟨wb, ⟨ST5.out.blkAt 2 rfl, ST5.out.cell 2 6 rfl rfl⟩⟩, rfl⟩, ?_⟩
      refine wpV_e (by simp only [List.getElem?_toArray, List.getElem?_cons_succ, List.getElem?_cons_zero] <;> rfl) (by rfl) ?_
      refine wpList_storeW (vs := #[.int .u8 z0, .int .u8 z1, .int .u8 z2, .int .u8 z3]) (ST5.out.blkAt 1 rfl) (by rfl) 107 _ _ (by rfl) (by rfl) (by rfl) rfl Try.infoU8x4 (by rw [← Array.all_toList]; rfl) ?_
      intro wc1 f_ b_
      have ST6 := Lib.hid (show Sta W (fun _ => True) (.pointer none) [] [⟨u4, #[.slice none 0 0, .slice none 0 0], 108⟩, ⟨u3, #[.int .u8 z0, .int .u8 z1, .int .u8 z2, .int .u8 z3], 107⟩, ⟨b0, #[.int .u8 z0, .int .u8 z1, .int .u8 z2, .int .u8 z3, .slice a0 l0.length c0, .slice a1 l1.length c1, .bool high, .slice a2 lc.length c2], 110⟩] [] ([]) wc1 from ST5.out.store 1 rfl f_ b_)
      clear ST5 f_ b_
      refine wpList_nil ?_
      refine ⟨⟨⟨wc1, ⟨ST6.out.blkAt 2 rfl, ST6.out.cell 2 6 rfl rfl⟩⟩, rfl⟩, ?_⟩
      simp only [Act.put]
      refine wpV_e (by simp only [List.getElem?_toArray, List.getElem?_cons_succ, List.getElem?_cons_zero] <;> rfl) (by rfl) ?_
      refine wpList_storeW (vs := #[.slice a0 l0.length c0, .slice a1 l1.length c1]) (ST6.out.blkAt 0 rfl) (by rfl) 108 _ _ (by rfl) (by rfl) (by rfl) rfl Try.infoU8s2 (by rw [← Array.all_toList]; rfl) ?_
      intro wd1 f_ b_
      have ST7 := Lib.hid (show Sta W (fun _ => True) (.pointer none) [] [⟨u4, #[.slice a0 l0.length c0, .slice a1 l1.length c1], 108⟩, ⟨u3, #[.int .u8 z0, .int .u8 z1, .int .u8 z2, .int .u8 z3], 107⟩, ⟨b0, #[.int .u8 z0, .int .u8 z1, .int .u8 z2, .int .u8 z3, .slice a0 l0.length c0, .slice a1 l1.length c1, .bool high, .slice a2 lc.length c2], 110⟩] [] ([]) wd1 from ST6.out.store 0 rfl f_ b_)
      clear ST6 f_ b_
      refine wpList_nil ?_
      refine ⟨⟨⟨wd1, ⟨ST7.out.blkAt 2 rfl, ST7.out.cell 2 6 rfl rfl⟩⟩, rfl⟩, ?_⟩
      simp only [Act.put]
      refine wpV_e (by simp only [List.getElem?_toArray, List.getElem?_cons_succ, List.getElem?_cons_zero] <;> rfl) (by rfl) ?_
      go_wp2_with fail
      refine ⟨⟨⟨wd1, ⟨ST7.out.blkAt 2 rfl, ST7.out.cell 2 6 rfl rfl⟩⟩, rfl⟩, ?_⟩
      refine wpV_done ?_
      clear zh this
      go_wp2_with fail
      go_meet
      exact ⟨u3, u4, rfl, rfl, rfl, ST7.out⟩
    · go_wp2_with fail
      obtain ⟨wa, hw_⟩ : ∃ x, x = wd.alloc (.cells #[.slice none 0 0, .slice none 0 0] 108) := ⟨_, rfl⟩
      obtain ⟨u4, hb_⟩ : ∃ b, b = wd.heap.size := ⟨_, rfl⟩
      rw [← hw_, ← hb_]
      have ST4 := Lib.hid (show Sta W (fun _ => True) (.pointer none) [] [⟨u4, #[.slice none 0 0, .slice none 0 0], 108⟩, ⟨b0, #[.int .u8 z0, .int .u8 z1, .int .u8 z2, .int .u8 z3, .slice a0 l0.length c0, .slice a1 l1.length c1, .bool high, .slice a2 lc.length c2], 110⟩] [] ([]) wa from hw_ ▸ ST3.out.box _ _ hb_)
      clear ST3 hw_ hb_
      refine ⟨⟨⟨wa, ⟨ST4.out.blkAt 1 rfl, ST4.out.cell 1 6 rfl rfl⟩⟩, rfl⟩, ?_⟩
      refine wpV_e (by simp only [List.getElem?_toArray, List.getElem?_cons_succ, List.getElem?_cons_zero] <;> rfl) (by rfl) ?_
      go_wp2_with fail
      obtain ⟨wb, hw_⟩ : ∃ x, x = wa.alloc (.cells #[.int .u8 0, .int .u8 0, .int .u8 0, .int .u8 0] 107) := ⟨_, rfl⟩
      obtain ⟨u3, hb_⟩ : ∃ b, b = wa.heap.size := ⟨_, rfl⟩
      rw [← hw_, ← hb_]
      have ST5 := Lib.hid (show Sta W (fun _ => True) (.pointer none) [] [⟨u3, #[.int .u8 0, .int .u8 0, .int .u8 0, .int .u8 0], 107⟩, ⟨u4, #[.slice none 0 0, .slice none 0 0], 108⟩, ⟨b0, #[.int .u8 z0, .int .u8 z1, .int .u8 z2, .int .u8 z3, .slice a0 l0.length c0, .slice a1 l1.length c1, .bool high, .slice a2 lc.length c2], 110⟩] [] ([]) wb from hw_ ▸ ST4.out.box _ _ hb_)
      clear ST4 hw_ hb_
      refine ⟨⟨⟨wb, ⟨ST5.out.blkAt 2 rfl, ST5.out.cell 2 6 rfl rfl⟩⟩, rfl⟩, ?_⟩
      refine wpV_e (by simp only [List.getElem?_toArray, List.getElem?_cons_succ, List.getElem?_cons_zero] <;> rfl) (by rfl) ?_
      refine wpList_storeW (vs := #[.int .u8 z0, .int .u8 z1, .int .u8 z2, .int .u8 z3]) (ST5.out.blkAt 0 rfl) (by rfl) 107 _ _ (by rfl) (by rfl) (by rfl) rfl Try.infoU8x4 (by rw [← Array.all_toList]; rfl) ?_
      intro wc1 f_ b_
      have ST6 := Lib.hid (show Sta W (fun _ => True) (.pointer none) [] [⟨u3, #[.int .u8 z0, .int .u8 z1, .int .u8 z2, .int .u8 z3], 107⟩, ⟨u4, #[.slice none 0 0, .slice none 0 0], 108⟩, ⟨b0, #[.int .u8 z0, .int .u8 z1, .int .u8 z2, .int .u8 z3, .slice a0 l0.length c0, .slice a1 l1.length c1, .bool high, .slice a2 lc.length c2], 110⟩] [] ([]) wc1 from ST5.out.store 0 rfl f_ b_)
      clear ST5 f_ b_
      refine wpList_nil ?_
      refine ⟨⟨⟨wc1, ⟨ST6.out.blkAt 2 rfl, ST6.out.cell 2 6 rfl rfl⟩⟩, rfl⟩, ?_⟩
      simp only [Act.put]
      refine wpV_e (by simp only [List.getElem?_toArray, List.getElem?_cons_succ, List.getElem?_cons_zero] <;> rfl) (by rfl) ?_
      refine wpList_storeW (vs := #[.slice a0 l0.length c0, .slice a1 l1.length c1]) (ST6.out.blkAt 1 rfl) (by rfl) 108 _ _ (by rfl) (by rfl) (by rfl) rfl Try.infoU8s2 (by rw [← Array.all_toList]; rfl) ?_
      intro wd1 f_ b_
      have ST7 := Lib.hid (show Sta W (fun _ => True) (.pointer none) [] [⟨u3, #[.int .u8 z0, .int .u8 z1, .int .u8 z2, .int .u8 z3], 107⟩, ⟨u4, #[.slice a0 l0.length c0, .slice a1 l1.length c1], 108⟩, ⟨b0, #[.int .u8 z0, .int .u8 z1, .int .u8 z2, .int .u8 z3, .slice a0 l0.length c0, .slice a1 l1.length c1, .bool high, .slice a2 lc.length c2], 110⟩] [] ([]) wd1 from ST6.out.store 1 rfl f_ b_)
      clear ST6 f_ b_
      refine wpList_nil ?_
      refine ⟨⟨⟨wd1, ⟨ST7.out.blkAt 2 rfl, ST7.out.cell 2 6 rfl rfl⟩⟩, rfl⟩, ?_⟩
      simp only [Act.put]
      refine wpV_e (by simp only [List.getElem?_toArray, List.getElem?_cons_succ, List.getElem?_cons_zero] <;> rfl) (by rfl) ?_
      go_wp2_with fail
      refine ⟨⟨⟨wd1, ⟨ST7.out.blkAt 2 rfl, ST7.out.cell 2 6 rfl rfl⟩⟩, rfl⟩, ?_⟩
      refine wpV_done ?_
      clear zh this
      go_wp2_with fail
      go_meet
      exact ⟨u3, u4, rfl, rfl, rfl, ST7.out.swap⟩
  case rest =>
    obtain ⟨u3, u4, rfl, rfl, rfl, hst⟩ := hcut
    generalize wc = w3 at hst ⊢
    have ST10 := Lib.hid hst
    clear hst ST2
    have y7 : w3.cell? ⟨b0, 7, none⟩ = some (.slice a2 lc.length c2) := ST10.out.cell 2 7 rfl rfl
    have GW := Lib.hid (show Gr W w3 from ST10.out.fr.mono (fun k _ h => absurd h (pn_no k)))
    have CD := Lib.hid (new_any a2 c2 lc w3 (HC.out.keep GW.out (fun _ _ h => h)) HBB.out HCR.out)
    go_upto_region 4 with fail
    go_wp2_with fail
    refine CD.out.mono ?_
    rintro e Wb ⟨d, rfl, hd3, hd4, bl4⟩
    obtain ⟨dp, hdp⟩ : ∃ dp, dp = Value.pointer (some ⟨d, 0, none⟩) := ⟨_, rfl⟩
    have GB := Gr.of_below bl4
    have FB := Lib.hid (Gr.trans GW.out GB)
    have STb := ST10.out.gr GB
    have hs3 := GW.out.size
    have HPW := Lib.hid (show ∀ k, pblk dp k → w3.heap.size ≤ k from fun k hk => by rw [hdp] at hk; unfold pblk at hk; cases hk; exact hd3)
    have HPW2 := Lib.hid (show ∀ k, pblk dp k → W.heap.size ≤ k from fun k hk => Nat.le_trans hs3 (HPW.out k hk))
    have hu3 := lt_heap (ST10.out.blkAt 1 rfl)
    have hu4 := lt_heap (ST10.out.blkAt 0 rfl)
    obtain ⟨r0, e0, r0a, r0b⟩ := u8_rem HZ.out.1 5 (by decide)
    obtain ⟨r1, e1', r1a, r1b⟩ := u8_rem HZ.out.2.1 5 (by decide)
    obtain ⟨r2, e2', r2a, r2b⟩ := u8_rem HZ.out.2.2.1 5 (by decide)
    obtain ⟨r3, e3', r3a, r3b⟩ := u8_rem HZ.out.2.2.2 5 (by decide)
    have HY := Lib.hid (show (∀ (j : Nat) (v : Value), #[.int .u8 z0, .int .u8 z1, .int .u8 z2, .int .u8 z3][j]? = some v → ∀ w, Fr (pblk dp) Wb w → w.cell? ⟨u3, j, none⟩ = some v) ∧ (∀ (j : Nat) (v : Value), #[.slice a0 l0.length c0, .slice a1 l1.length c1][j]? = some v → ∀ w, Fr (pblk dp) Wb w → w.cell? ⟨u4, j, none⟩ = some v) from
      ⟨fun j v hv w f => f.cell (STb.cell 1 j rfl hv) (fun hk => by have := HPW.out _ hk; simp only at this; omega), fun j v hv w f => f.cell (STb.cell 0 j rfl hv) (fun hk => by have := HPW.out _ hk; simp only at this; omega)⟩)
    have ST1 := Lib.hid (show Sta Wb (fun _ => True) dp lc [] [] (hrows (hNew 1 (1 + r0) r1) hdNone (hrows (hNew 2 (1 + r2) r3) hdNone [])) Wb from Sta.initD (.inr ⟨d, hdp, hd4⟩) (by
      intro r hr
      rcases List.mem_cons.1 hr with rfl | hr
      · exact ⟨SlA.nil Wb, fun h => absurd rfl h⟩
      rcases List.mem_cons.1 hr with rfl | hr
      · exact ⟨SlA.nil Wb, fun h => absurd rfl h⟩
      rcases List.mem_cons.1 hr with rfl | hr
      · exact ⟨SlA.nil Wb, fun h => absurd rfl h⟩
      rcases List.mem_cons.1 hr with rfl | hr
      · exact ⟨SlA.nil Wb, fun h => absurd rfl h⟩
      rcases List.mem_cons.1 hr with rfl | hr
      · exact ⟨SlA.nil Wb, fun h => absurd rfl h⟩
      rcases List.mem_cons.1 hr with rfl | hr
      · exact ⟨SlA.nil Wb, fun h => absurd rfl h⟩
      · cases hr))
    rw [← hdp]
    clear hd3 hd4 bl4 CD hdp y7 GB STb HC HBB HCR ST10 e5 e6 hu3 hu4
    have y0 : Wb.cell? ⟨u3, 0, none⟩ = some (.int .u8 z0) := HY.out.1 0 _ rfl Wb (Fr.refl _ _)
    have y1 : Wb.cell? ⟨u3, 1, none⟩ = some (.int .u8 z1) := HY.out.1 1 _ rfl Wb (Fr.refl _ _)
    have k0 := HZ.out.1
    have k1 := HZ.out.2.1
    have k2 := HZ.out.2.2.1
    have k3 := HZ.out.2.2.2
    have CN1 := Lib.hid (fun w => handNew_any 1 (1 + r0) r1 w)
    have CN2 := Lib.hid (fun w => handNew_any 2 (1 + r2) r3 w)
    go_upto_region 5 with fail
    go_wp2_with fail
    refine (CN1.out _).mono ?_
    rintro e w4 ⟨rfl, f_⟩
    clear y0 y1 CN1
    have ST2 := Lib.hid (show Sta Wb (fun _ => True) dp lc [] [] (hrows (hNew 1 (1 + r0) r1) hdNone (hrows (hNew 2 (1 + r2) r3) hdNone [])) w4 from ST1.out.gr f_)
    clear ST1 f_
    go_wp2_with (refine wpList_fresh (vs := Hd.arr (hNew 1 (1 + r0) r1) hdNone) hz1' hz2' Try.infoHand (by rfl) (by rw [← Array.all_toList]; rfl) (by rfl) (by rfl) ?_)
    intro w5 f_ b_ l_
    obtain ⟨q7, hb_⟩ : ∃ b, b = w4.heap.size := ⟨_, rfl⟩
    rw [← hb_] at b_ l_ ⊢
    have ST3 := Lib.hid (show Sta Wb (fun _ => True) dp lc [⟨q7, Hd.arr (hNew 1 (1 + r0) r1) hdNone, 112⟩] [] (hrows (hNew 1 (1 + r0) r1) hdNone (hrows (hNew 2 (1 + r2) r3) hdNone [])) w5 from ST2.out.var f_ b_ (Nat.le_of_eq hb_.symm))
    clear ST2 f_ b_ l_ hb_
    have y2 : w5.cell? ⟨u3, 2, none⟩ = some (.int .u8 z2) := HY.out.1 2 _ rfl w5 ST3.out.fr
    have y3 : w5.cell? ⟨u3, 3, none⟩ = some (.int .u8 z3) := HY.out.1 3 _ rfl w5 ST3.out.fr
    go_upto_region 6 with fail
    go_wp2_with fail
    refine (CN2.out _).mono ?_
    rintro e w6 ⟨rfl, f_⟩
    clear y2 y3 CN2
    have ST4 := Lib.hid (show Sta Wb (fun _ => True) dp lc [⟨q7, Hd.arr (hNew 1 (1 + r0) r1) hdNone, 112⟩] [] (hrows (hNew 1 (1 + r0) r1) hdNone (hrows (hNew 2 (1 + r2) r3) hdNone [])) w6 from ST3.out.gr f_)
    clear ST3 f_
    go_wp2_with (refine wpList_fresh (vs := Hd.arr (hNew 2 (1 + r2) r3) hdNone) hz1' hz2' Try.infoHand (by rfl) (by rw [← Array.all_toList]; rfl) (by rfl) (by rfl) ?_)
    intro w7 f_ b_ l_
    obtain ⟨q8, hb_⟩ : ∃ b, b = w6.heap.size := ⟨_, rfl⟩
    rw [← hb_] at b_ l_ ⊢
    have ST5 := Lib.hid (show Sta Wb (fun _ => True) dp lc [⟨q8, Hd.arr (hNew 2 (1 + r2) r3) hdNone, 112⟩, ⟨q7, Hd.arr (hNew 1 (1 + r0) r1) hdNone, 112⟩] [] (hrows (hNew 1 (1 + r0) r1) hdNone (hrows (hNew 2 (1 + r2) r3) hdNone [])) w7 from ST4.out.var f_ b_ (Nat.le_of_eq hb_.symm))
    clear ST4 f_ b_ l_ hb_
    have PA := Lib.hid (pre_new 1 (1 + r0) r1 (by omega))
    have PB := Lib.hid (pre_new 2 (1 + r2) r3 (by omega))
    obtain ⟨hb, hhb⟩ : ∃ h, h = (hNew 2 (1 + r2) r3) := ⟨_, rfl⟩
    obtain ⟨xb, hxb⟩ : ∃ x, x = hdNone := ⟨_, rfl⟩
    rw [← hhb] at PB
    obtain ⟨n0, hn0⟩ : ∃ n, n = min l0.length 8 := ⟨_, rfl⟩
    obtain ⟨n1, hn1⟩ : ∃ n, n = min l1.length 8 := ⟨_, rfl⟩
    have HN0 := Lib.hid hn0
    have HN1 := Lib.hid hn1
    clear hn0 hn1
    have ST30 := Lib.hid (show Sta Wb (fun _ => True) dp lc [⟨q8, Hd.arr hb xb, 112⟩, ⟨q7, Hd.arr (hNew 1 (1 + r0) r1) hdNone, 112⟩] [] (hrows (hNew 1 (1 + r0) r1) hdNone (hrows hb xb [])) w7 by rw [hhb, hxb]; exact ST5.out)
    clear ST5 hhb hxb HZ k0 k1 k2 k3 e0 e1' e2' e3' r0a r0b r1a r1b r2a r2b r3a r3b hz1' hz2' hzs hs3 GW
    go_upto_region 7 with fail
    go_wp2_with fail
    go_loopw [9] (fun iv wr => ∃ (k : Nat) (h : Hd) (x : HdP) (ds : List Int), iv = .int .i64 k ∧ k ≤ n0 ∧ Pre h 1 ∧ Sta Wb (fun _ => True) dp ds [⟨q8, Hd.arr hb xb, 112⟩, ⟨q7, Hd.arr h x, 112⟩] [] (hrows h x (hrows hb xb [])) wr) (fun iv _ => n0 - (intOf iv).toNat)
    case atStart => exact ⟨0, (hNew 1 (1 + r0) r1), hdNone, lc, rfl, Nat.zero_le _, PA.out, ST30.out⟩
    case round =>
      clear ST30 PA
      obtain ⟨k, h, x, ds, rfl, hk, hp, hst⟩ := hrel
      have HP := Lib.hid hp
      have ST1 := Lib.hid hst
      clear hp hst
      have y0 : wr.cell? ⟨u4, 0, none⟩ = some (.slice a0 l0.length c0) := HY.out.2 0 _ rfl wr ST1.out.fr
      go_upto_region 8 with fail
      go_cut [55] from 47 to 54 (fun c wx => c = .bool (decide (k < n0)) ∧ wr = wx)
      case first =>
        by_cases h1 : (k : Int) < (l0.length : Int)
        · by_cases h2 : (k : Int) < 8
          · have hd := Lib.hid (show decide (k < n0) = true by have := HN0.out; simp; omega)
            go_wp2_with fail
            go_meet
            exact ⟨by rw [hd.out], rfl⟩
          · have hd := Lib.hid (show decide (k < n0) = false by have := HN0.out; simp; omega)
            go_wp2_with fail
            go_meet
            exact ⟨by rw [hd.out], rfl⟩
        · have hd := Lib.hid (show decide (k < n0) = false by have := HN0.out; simp; omega)
          go_wp2_with fail
          go_meet
          exact ⟨by rw [hd.out], rfl⟩
      case rest =>
        obtain ⟨rfl, rfl⟩ := hcut
        clear y0
        by_cases hlt : k < n0
        · rw [decide_eq_true hlt]
          have hkl : k < l0.length := by have := HN0.out; omega
          obtain ⟨bl, ol, rfl, hcl⟩ := HL0.out.cell k (.int .u8 l0[k]) (by rw [List.getElem?_map, List.getElem?_eq_getElem hkl]; rfl)
          have hrk := HR0.out l0[k] (List.getElem_mem hkl)
          have HB := Lib.hid (show ∀ w, Fr (pblk dp) Wb w → w.cell? ⟨bl, ol + k, none⟩ = some (.int .u8 l0[k]) from fun w f => f.cell (FB.out.cell hcl (fun h => h)) (fun hk => by have h1 := HPW2.out _ hk; have h2 := lt_of_cell hcl; simp only at h1 h2; omega))
          clear hcl
          generalize l0[k] = zz at hrk HB
          obtain ⟨m, hm, hm0, hm1⟩ := u8_rem hrk 9 (by decide)
          have CP := Lib.hid (fun O w (h1 : Sta w O dp ds [] [] (hrows h x []) w) => handOnAsk_any h x (3 + m) true dp ds O w h1 HP.out.hi.good)
          have hP := pre_step HP.out (.inl rfl) (n := 3 + m) (by omega) ST1.out.dr.range
          obtain ⟨h', o', d', e8⟩ : ∃ a b c, hOnAsk h (3 + m) true ds = (a, b, c) := ⟨_, _, _, rfl⟩
          rw [e8] at CP hP
          simp only at CP hP
          have HP' := Lib.hid hP
          clear hP e8
          go_upto_region 10 with fail
          obtain ⟨wz, hwd⟩ : ∃ x, x = wr.drew := ⟨_, rfl⟩
          have HWD := Lib.hid hwd
          have ST2 := Lib.hid (show Sta Wb (fun _ => True) dp ds [⟨q8, Hd.arr hb xb, 112⟩, ⟨q7, Hd.arr h x, 112⟩] [] (hrows h x (hrows hb xb [])) wz from hwd ▸ ST1.out.gr ((Fr.refl _ _).drew))
          clear ST1 hwd
          haveI : Nonempty (WC (fun w => w.cell? ⟨u4, 0, none⟩ = some (.slice (some ⟨bl, ol, none⟩) l0.length c0) ∧ w.cell? ⟨bl, ol + k, none⟩ = some (.int .u8 zz))) := ⟨⟨wz, ⟨HY.out.2 0 _ rfl wz ST2.out.fr, HB.out _ ST2.out.fr⟩⟩⟩
          have zu : ∀ z : WC (fun w => w.cell? ⟨u4, 0, none⟩ = some (.slice (some ⟨bl, ol, none⟩) l0.length c0) ∧ w.cell? ⟨bl, ol + k, none⟩ = some (.int .u8 zz)), z.val.cell? ⟨u4, 0, none⟩ = some (.slice (some ⟨bl, ol, none⟩) l0.length c0) := fun z => z.ok.1
          have zc : ∀ z : WC (fun w => w.cell? ⟨u4, 0, none⟩ = some (.slice (some ⟨bl, ol, none⟩) l0.length c0) ∧ w.cell? ⟨bl, ol + k, none⟩ = some (.int .u8 zz)), z.val.cell? ⟨bl, ol + k, none⟩ = some (.int .u8 zz) := fun z => z.ok.2
          refine wp_region_plan [0, 10, 14] (Plan.seq [0, 1, 2, 3, 4, 5, 6, 7, 8, 9, 10, 11, 12, 13, 14] .done) (fun w' => ∃ z : WC (fun w => w.cell? ⟨u4, 0, none⟩ = some (.slice (some ⟨bl, ol, none⟩) l0.length c0) ∧ w.cell? ⟨bl, ol + k, none⟩ = some (.int .u8 zz)), w' = z.val) (by kernel_rfl) (by kernel_rfl) (fun c a w d v h => by cases d <;> exact h) (fun c a w d v h => by cases d <;> exact h) (by rw [← HWD.out]; exact ⟨⟨wz, ⟨HY.out.2 0 _ rfl wz ST2.out.fr, HB.out _ ST2.out.fr⟩⟩, rfl⟩) ?_
          rw [← HWD.out]
          clear HWD
          refine wpV_e (by simp only [List.getElem?_toArray, List.getElem?_cons_zero] <;> rfl) (by rfl) ?_
          refine wpList_load_mid (by rfl) 112 _ (by rfl) q7 0 (by rfl) (Array.toList (Hd.arr h x)) _ (blk_range (ST2.out.blkAt 1 rfl)) Try.underlying112 rfl Try.infoHand ?_
          refine wpList_nil ?_
          refine ⟨⟨⟨wz, ⟨HY.out.2 0 _ rfl wz ST2.out.fr, HB.out _ ST2.out.fr⟩⟩, rfl⟩, ?_⟩
          simp only [Act.put, List.setIfInBounds_toArray, List.set_cons_succ, List.set_cons_zero]
          refine wpV_q (by simp only [List.getElem?_toArray, List.getElem?_cons_succ, List.getElem?_cons_zero] <;> rfl) (by rfl) (by rfl) ?_
          go_big_quiet_step (fail)
          refine wpQuiet_nil ?_
          refine wpV_q (by simp only [List.getElem?_toArray, List.getElem?_cons_succ, List.getElem?_cons_zero] <;> rfl) (by rfl) (by rfl) ?_
          go_big_quiet_step (fail)
          refine wpQuiet_nil ?_
          refine wpV_q (by simp only [List.getElem?_toArray, List.getElem?_cons_succ, List.getElem?_cons_zero] <;> rfl) (by rfl) (by rfl) ?_
          go_big_quiet_step (fail)
          refine wpQuiet_nil ?_
          refine wpV_q (by simp only [List.getElem?_toArray, List.getElem?_cons_succ, List.getElem?_cons_zero] <;> rfl) (by rfl) (by rfl) ?_
          go_big_quiet_step (fail)
          refine wpQuiet_nil ?_
          refine wpV_q (by simp only [List.getElem?_toArray, List.getElem?_cons_succ, List.getElem?_cons_zero] <;> rfl) (by rfl) (by rfl) ?_
          go_big_quiet_step (fail)
          refine wpQuiet_nil ?_
          refine wpV_q (by simp only [List.getElem?_toArray, List.getElem?_cons_succ, List.getElem?_cons_zero] <;> rfl) (by rfl) (by rfl) ?_
          go_big_quiet_step (fail)
          refine wpQuiet_nil ?_
          refine wpV_q (by simp only [List.getElem?_toArray, List.getElem?_cons_succ, List.getElem?_cons_zero] <;> rfl) (by rfl) (by rfl) ?_
          go_big_quiet_step (fail)
          refine wpQuiet_nil ?_
          refine wpV_q (by simp only [List.getElem?_toArray, List.getElem?_cons_succ, List.getElem?_cons_zero] <;> rfl) (by rfl) (by rfl) ?_
          go_big_quiet_step (fail)
          refine wpQuiet_nil ?_
          refine wpV_q (by simp only [List.getElem?_toArray, List.getElem?_cons_succ, List.getElem?_cons_zero] <;> rfl) (by rfl) (by rfl) ?_
          go_big_quiet_step (fail)
          refine wpQuiet_nil ?_
          refine wpV_e (by simp only [List.getElem?_toArray, List.getElem?_cons_succ, List.getElem?_cons_zero] <;> rfl) (by rfl) ?_
          go_wp2_with fail
          refine (CP.out _ _ (ST2.out.enter (hrows h x []) (inC (at_ 0 rfl) (inC (at_ 1 rfl) (inC (at_ 2 rfl) inN))))).mono ?_
          intro e wa hst
          obtain ⟨x', ov, rfl, hst2, -⟩ := hst
          have ST3 := Lib.hid (show Sta Wb (fun _ => True) dp d' [⟨q8, Hd.arr hb xb, 112⟩, ⟨q7, Hd.arr h x, 112⟩] [⟨91, 8, ov, o'.length, houts o'⟩] (hrows h' x' (hrows h x (hrows hb xb []))) wa from ST2.out.leave (inC (at_ 0 rfl) (inC (at_ 1 rfl) (inC (at_ 2 rfl) inN))) hst2)
          clear hst2 ST2
          go_wp2_with fail
          refine ⟨⟨⟨wa, ⟨HY.out.2 0 _ rfl wa ST3.out.fr, HB.out _ ST3.out.fr⟩⟩, rfl⟩, ?_⟩
          refine wpV_q (by simp only [List.getElem?_toArray, List.getElem?_cons_succ, List.getElem?_cons_zero] <;> rfl) (by rfl) (by rfl) ?_
          go_big_quiet_step (fail)
          refine wpQuiet_nil ?_
          refine wpV_q (by simp only [List.getElem?_toArray, List.getElem?_cons_succ, List.getElem?_cons_zero] <;> rfl) (by rfl) (by rfl) ?_
          go_big_quiet_step (fail)
          refine wpQuiet_nil ?_
          refine wpV_q (by simp only [List.getElem?_toArray, List.getElem?_cons_succ, List.getElem?_cons_zero] <;> rfl) (by rfl) (by rfl) ?_
          go_big_quiet_step (fail)
          refine wpQuiet_nil ?_
          refine wpV_e (by simp only [List.getElem?_toArray, List.getElem?_cons_succ, List.getElem?_cons_zero] <;> rfl) (by rfl) ?_
          refine wpList_storeW (vs := h'.arr x') (ST3.out.blkAt 1 rfl) (by rfl) 112 _ _ (by rfl) (by rfl) (by rfl) rfl Try.infoHand (by rw [← Array.all_toList]; rfl) ?_
          intro wb f_ b_
          have ST4 := Lib.hid (show Sta Wb (fun _ => True) dp d' [⟨q8, Hd.arr hb xb, 112⟩, ⟨q7, h'.arr x', 112⟩] [⟨91, 8, ov, o'.length, houts o'⟩] (hrows h' x' (hrows h x (hrows hb xb []))) wb from ST3.out.store 1 rfl f_ b_)
          clear ST3 f_ b_
          refine wpList_nil ?_
          refine ⟨⟨⟨wb, ⟨HY.out.2 0 _ rfl wb ST4.out.fr, HB.out _ ST4.out.fr⟩⟩, rfl⟩, ?_⟩
          simp only [Act.put]
          refine wpV_done ?_
          clear zu zc this
          go_wp2_with fail
          go_roundw
          case rel => exact ⟨k + 1, h', x', d', by go_num, hlt, HP'.out, ST4.out.less (List.nil_sublist _) (inC (at_ 0 rfl) (inC (at_ 1 rfl) (inC (at_ 2 rfl) (inC (at_ 6 rfl) (inC (at_ 7 rfl) (inC (at_ 8 rfl) inN))))))⟩
          case measure => simp [intOf]; omega
        · rw [decide_eq_false hlt]
          have hkn : k = n0 := by omega
          clear hlt hkn hk
          generalize h = ha at HP ST1 ⊢
          generalize x = xa at ST1 ⊢
          have PA := HP
          have ST30 := ST1
          clear HP ST1
          go_upto_region 11 with fail
          go_wp2_with fail
          go_loopw [10] (fun iv wr => ∃ (k : Nat) (h : Hd) (x : HdP) (ds : List Int), iv = .int .i64 k ∧ k ≤ n1 ∧ Pre h 2 ∧ Sta Wb (fun _ => True) dp ds [⟨q8, Hd.arr h x, 112⟩, ⟨q7, Hd.arr ha xa, 112⟩] [] (hrows ha xa (hrows h x [])) wr) (fun iv _ => n1 - (intOf iv).toNat)
          case atStart => exact ⟨0, hb, xb, ds, rfl, Nat.zero_le _, PB.out, ST30.out⟩
          case round =>
            clear ST30 PB
            obtain ⟨k, h, x, ds, rfl, hk, hp, hst⟩ := hrel
            have HP := Lib.hid hp
            have ST1 := Lib.hid hst
            clear hp hst
            have y0 : wr.cell? ⟨u4, 1, none⟩ = some (.slice a1 l1.length c1) := HY.out.2 1 _ rfl wr ST1.out.fr
            go_upto_region 12 with fail
            go_cut [80] from 72 to 79 (fun c wx => c = .bool (decide (k < n1)) ∧ wr = wx)
            case first =>
              by_cases h1 : (k : Int) < (l1.length : Int)
              · by_cases h2 : (k : Int) < 8
                · have hd := Lib.hid (show decide (k < n1) = true by have := HN1.out; simp; omega)
                  go_wp2_with fail
                  go_meet
                  exact ⟨by rw [hd.out], rfl⟩
                · have hd := Lib.hid (show decide (k < n1) = false by have := HN1.out; simp; omega)
                  go_wp2_with fail
                  go_meet
                  exact ⟨by rw [hd.out], rfl⟩
              · have hd := Lib.hid (show decide (k < n1) = false by have := HN1.out; simp; omega)
                go_wp2_with fail
                go_meet
                exact ⟨by rw [hd.out], rfl⟩
            case rest =>
              obtain ⟨rfl, rfl⟩ := hcut
              clear y0
              by_cases hlt : k < n1
              · rw [decide_eq_true hlt]
                have hkl : k < l1.length := by have := HN1.out; omega
                obtain ⟨bl, ol, rfl, hcl⟩ := HL1.out.cell k (.int .u8 l1[k]) (by rw [List.getElem?_map, List.getElem?_eq_getElem hkl]; rfl)
                have hrk := HR1.out l1[k] (List.getElem_mem hkl)
                have HB := Lib.hid (show ∀ w, Fr (pblk dp) Wb w → w.cell? ⟨bl, ol + k, none⟩ = some (.int .u8 l1[k]) from fun w f => f.cell (FB.out.cell hcl (fun h => h)) (fun hk => by have h1 := HPW2.out _ hk; have h2 := lt_of_cell hcl; simp only at h1 h2; omega))
                clear hcl
                generalize l1[k] = zz at hrk HB
                obtain ⟨m, hm, hm0, hm1⟩ := u8_rem hrk 9 (by decide)
                have CP := Lib.hid (fun O w (h1 : Sta w O dp ds [] [] (hrows h x []) w) => handOnAsk_any h x (3 + m) true dp ds O w h1 HP.out.hi.good)
                have hP := pre_step HP.out (.inr rfl) (n := 3 + m) (by omega) ST1.out.dr.range
                obtain ⟨h', o', d', e8⟩ : ∃ a b c, hOnAsk h (3 + m) true ds = (a, b, c) := ⟨_, _, _, rfl⟩
                rw [e8] at CP hP
                simp only at CP hP
                have HP' := Lib.hid hP
                clear hP e8
                go_upto_region 14 with fail
                obtain ⟨wz, hwd⟩ : ∃ x, x = wr.drew := ⟨_, rfl⟩
                have HWD := Lib.hid hwd
                have ST2 := Lib.hid (show Sta Wb (fun _ => True) dp ds [⟨q8, Hd.arr h x, 112⟩, ⟨q7, Hd.arr ha xa, 112⟩] [] (hrows ha xa (hrows h x [])) wz from hwd ▸ ST1.out.gr ((Fr.refl _ _).drew))
                clear ST1 hwd
                haveI : Nonempty (WC (fun w => w.cell? ⟨u4, 1, none⟩ = some (.slice (some ⟨bl, ol, none⟩) l1.length c1) ∧ w.cell? ⟨bl, ol + k, none⟩ = some (.int .u8 zz))) := ⟨⟨wz, ⟨HY.out.2 1 _ rfl wz ST2.out.fr, HB.out _ ST2.out.fr⟩⟩⟩
                have zu : ∀ z : WC (fun w => w.cell? ⟨u4, 1, none⟩ = some (.slice (some ⟨bl, ol, none⟩) l1.length c1) ∧ w.cell? ⟨bl, ol + k, none⟩ = some (.int .u8 zz)), z.val.cell? ⟨u4, 1, none⟩ = some (.slice (some ⟨bl, ol, none⟩) l1.length c1) := fun z => z.ok.1
                have zc : ∀ z : WC (fun w => w.cell? ⟨u4, 1, none⟩ = some (.slice (some ⟨bl, ol, none⟩) l1.length c1) ∧ w.cell? ⟨bl, ol + k, none⟩ = some (.int .u8 zz)), z.val.cell? ⟨bl, ol + k, none⟩ = some (.int .u8 zz) := fun z => z.ok.2
                refine wp_region_plan [0, 10, 14] (Plan.seq [0, 1, 2, 3, 4, 5, 6, 7, 8, 9, 10, 11, 12, 13, 14] .done) (fun w' => ∃ z : WC (fun w => w.cell? ⟨u4, 1, none⟩ = some (.slice (some ⟨bl, ol, none⟩) l1.length c1) ∧ w.cell? ⟨bl, ol + k, none⟩ = some (.int .u8 zz)), w' = z.val) (by kernel_rfl) (by kernel_rfl) (fun c a w d v h => by cases d <;> exact h) (fun c a w d v h => by cases d <;> exact h) (by rw [← HWD.out]; exact ⟨⟨wz, ⟨HY.out.2 1 _ rfl wz ST2.out.fr, HB.out _ ST2.out.fr⟩⟩, rfl⟩) ?_
                rw [← HWD.out]
                clear HWD
                refine wpV_e (by simp only [List.getElem?_toArray, List.getElem?_cons_zero] <;> rfl) (by rfl) ?_
                refine wpList_load_mid (by rfl) 112 _ (by rfl) q8 0 (by rfl) (Array.toList (Hd.arr h x)) _ (blk_range (ST2.out.blkAt 0 rfl)) Try.underlying112 rfl Try.infoHand ?_
                refine wpList_nil ?_
                refine ⟨⟨⟨wz, ⟨HY.out.2 1 _ rfl wz ST2.out.fr, HB.out _ ST2.out.fr⟩⟩, rfl⟩, ?_⟩
                simp only [Act.put, List.setIfInBounds_toArray, List.set_cons_succ, List.set_cons_zero]
                refine wpV_q (by simp only [List.getElem?_toArray, List.getElem?_cons_succ, List.getElem?_cons_zero] <;> rfl) (by rfl) (by rfl) ?_
                go_big_quiet_step (fail)
                refine wpQuiet_nil ?_
                refine wpV_q (by simp only [List.getElem?_toArray, List.getElem?_cons_succ, List.getElem?_cons_zero] <;> rfl) (by rfl) (by rfl) ?_
                go_big_quiet_step (fail)
                refine wpQuiet_nil ?_
                refine wpV_q (by simp only [List.getElem?_toArray, List.getElem?_cons_succ, List.getElem?_cons_zero] <;> rfl) (by rfl) (by rfl) ?_
                go_big_quiet_step (fail)
                refine wpQuiet_nil ?_
                refine wpV_q (by simp only [List.getElem?_toArray, List.getElem?_cons_succ, List.getElem?_cons_zero] <;> rfl) (by rfl) (by rfl) ?_
                go_big_quiet_step (fail)
                refine wpQuiet_nil ?_
                refine wpV_q (by simp only [List.getElem?_toArray, List.getElem?_cons_succ, List.getElem?_cons_zero] <;> rfl) (by rfl) (by rfl) ?_
                go_big_quiet_step (fail)
                refine wpQuiet_nil ?_
                refine wpV_q (by simp only [List.getElem?_toArray, List.getElem?_cons_succ, List.getElem?_cons_zero] <;> rfl) (by rfl) (by rfl) ?_
                go_big_quiet_step (fail)
                refine wpQuiet_nil ?_
                refine wpV_q (by simp only [List.getElem?_toArray, List.getElem?_cons_succ, List.getElem?_cons_zero] <;> rfl) (by rfl) (by rfl) ?_
                go_big_quiet_step (fail)
                refine wpQuiet_nil ?_
                refine wpV_q (by simp only [List.getElem?_toArray, List.getElem?_cons_succ, List.getElem?_cons_zero] <;> rfl) (by rfl) (by rfl) ?_
                go_big_quiet_step (fail)
                refine wpQuiet_nil ?_
                refine wpV_q (by simp only [List.getElem?_toArray, List.getElem?_cons_succ, List.getElem?_cons_zero] <;> rfl) (by rfl) (by rfl) ?_
                go_big_quiet_step (fail)
                refine wpQuiet_nil ?_
                refine wpV_e (by simp only [List.getElem?_toArray, List.getElem?_cons_succ, List.getElem?_cons_zero] <;> rfl) (by rfl) ?_
                go_wp2_with fail
                refine (CP.out _ _ (ST2.out.enter (hrows h x []) (inC (at_ 3 rfl) (inC (at_ 4 rfl) (inC (at_ 5 rfl) inN))))).mono ?_
                intro e wa hst
                obtain ⟨x', ov, rfl, hst2, -⟩ := hst
                have ST3 := Lib.hid (show Sta Wb (fun _ => True) dp d' [⟨q8, Hd.arr h x, 112⟩, ⟨q7, Hd.arr ha xa, 112⟩] [⟨91, 8, ov, o'.length, houts o'⟩] (hrows h' x' (hrows ha xa (hrows h x []))) wa from ST2.out.leave (inC (at_ 3 rfl) (inC (at_ 4 rfl) (inC (at_ 5 rfl) inN))) hst2)
                clear hst2 ST2
                go_wp2_with fail
                refine ⟨⟨⟨wa, ⟨HY.out.2 1 _ rfl wa ST3.out.fr, HB.out _ ST3.out.fr⟩⟩, rfl⟩, ?_⟩
                refine wpV_q (by simp only [List.getElem?_toArray, List.getElem?_cons_succ, List.getElem?_cons_zero] <;> rfl) (by rfl) (by rfl) ?_
                go_big_quiet_step (fail)
                refine wpQuiet_nil ?_
                refine wpV_q (by simp only [List.getElem?_toArray, List.getElem?_cons_succ, List.getElem?_cons_zero] <;> rfl) (by rfl) (by rfl) ?_
                go_big_quiet_step (fail)
                refine wpQuiet_nil ?_
                refine wpV_q (by simp only [List.getElem?_toArray, List.getElem?_cons_succ, List.getElem?_cons_zero] <;> rfl) (by rfl) (by rfl) ?_
                go_big_quiet_step (fail)
                refine wpQuiet_nil ?_
                refine wpV_e (by simp only [List.getElem?_toArray, List.getElem?_cons_succ, List.getElem?_cons_zero] <;> rfl) (by rfl) ?_
                refine wpList_storeW (vs := h'.arr x') (ST3.out.blkAt 0 rfl) (by rfl) 112 _ _ (by rfl) (by rfl) (by rfl) rfl Try.infoHand (by rw [← Array.all_toList]; rfl) ?_
                intro wb f_ b_
                have ST4 := Lib.hid (show Sta Wb (fun _ => True) dp d' [⟨q8, h'.arr x', 112⟩, ⟨q7, Hd.arr ha xa, 112⟩] [⟨91, 8, ov, o'.length, houts o'⟩] (hrows h' x' (hrows ha xa (hrows h x []))) wb from ST3.out.store 0 rfl f_ b_)
                clear ST3 f_ b_
                refine wpList_nil ?_
                refine ⟨⟨⟨wb, ⟨HY.out.2 1 _ rfl wb ST4.out.fr, HB.out _ ST4.out.fr⟩⟩, rfl⟩, ?_⟩
                simp only [Act.put]
                refine wpV_done ?_
                clear zu zc this
                go_wp2_with fail
                go_roundw
                case rel => exact ⟨k + 1, h', x', d', by go_num, hlt, HP'.out, ST4.out.less (List.nil_sublist _) (inC (at_ 3 rfl) (inC (at_ 4 rfl) (inC (at_ 5 rfl) (inC (at_ 0 rfl) (inC (at_ 1 rfl) (inC (at_ 2 rfl) inN))))))⟩
                case measure => simp [intOf]; omega
              · rw [decide_eq_false hlt]
                have hkn : k = n1 := by omega
                clear hlt hkn hk
                generalize h = hb at HP ST1 ⊢
                generalize x = xb at ST1 ⊢
                have PB := HP
                have ST10 := ST1
                clear HP ST1 HL0 HL1 HR0 HR1 HN0 HN1 HY e1 e2 e3 e4
                have m01 := (ST10.out.rowAt 0 rfl).le
                have m02 := (ST10.out.rowAt 0 rfl).max
                have m03 := (ST10.out.rowAt 3 rfl).le
                have m04 := (ST10.out.rowAt 3 rfl).max
                have CFB := Lib.hid (fun w => setFull_any xb.x.aa hb.v.act.length xb.x.ac hb.v.am w)
                rw [show decide (hb.v.am ≤ (hb.v.act.length : Int)) = vaFull hb.v from rfl] at CFB
                have CFA := Lib.hid (fun w => setFull_any xa.x.aa ha.v.act.length xa.x.ac ha.v.am w)
                rw [show decide (ha.v.am ≤ (ha.v.act.length : Int)) = vaFull ha.v from rfl] at CFA
                have b1 : wr.cell? ⟨q8, 1, none⟩ = some (.slice xb.x.aa hb.v.act.length xb.x.ac) := ST10.out.cell 0 1 rfl rfl
                have b2 : wr.cell? ⟨q8, 2, none⟩ = some (.int .i64 hb.v.am) := ST10.out.cell 0 2 rfl rfl
                go_upto_region 15 with fail
                go_wp2_with fail
                refine (CFB.out _).mono ?_
                rintro e w9 ⟨rfl, f_⟩
                clear b1 b2 CFB
                have ST11 := Lib.hid (show Sta Wb (fun _ => True) dp ds [⟨q8, Hd.arr hb xb, 112⟩, ⟨q7, Hd.arr ha xa, 112⟩] [] (hrows ha xa (hrows hb xb [])) w9 from ST10.out.gr f_)
                clear ST10 f_
                go_upto_region 16 with fail
                go_cut [12, 13] from 102 to 108 (fun a b wx => ∃ u13, a = .bool (vaFull ha.v) ∧ b = .pointer (some ⟨u13, 0, none⟩) ∧ Sta Wb (fun _ => True) dp ds [⟨u13, #[.slice xa.x.aa ha.v.act.length xa.x.ac, .int .i64 ha.v.am], 27⟩, ⟨q8, Hd.arr hb xb, 112⟩, ⟨q7, Hd.arr ha xa, 112⟩] [] (hrows ha xa (hrows hb xb [])) wx)
                case first =>
                  obtain ⟨wd, hwd⟩ : ∃ x, x = w9.drew := ⟨_, rfl⟩
                  have HWD := Lib.hid hwd
                  have ST12 := Lib.hid (show Sta Wb (fun _ => True) dp ds [⟨q8, Hd.arr hb xb, 112⟩, ⟨q7, Hd.arr ha xa, 112⟩] [] (hrows ha xa (hrows hb xb [])) wd from hwd ▸ ST11.out.gr ((Fr.refl _ _).drew))
                  clear ST11 hwd
                  haveI : Nonempty (WC (fun w => w.cell? ⟨q7, 1, none⟩ = some (.slice xa.x.aa ha.v.act.length xa.x.ac) ∧ w.cell? ⟨q7, 2, none⟩ = some (.int .i64 ha.v.am))) := ⟨⟨wd, ⟨ST12.out.cell 1 1 rfl rfl, ST12.out.cell 1 2 rfl rfl⟩⟩⟩
                  have za : ∀ z : WC (fun w => w.cell? ⟨q7, 1, none⟩ = some (.slice xa.x.aa ha.v.act.length xa.x.ac) ∧ w.cell? ⟨q7, 2, none⟩ = some (.int .i64 ha.v.am)), z.val.cell? ⟨q7, 1, none⟩ = some (.slice xa.x.aa ha.v.act.length xa.x.ac) := fun z => z.ok.1
                  have zb : ∀ z : WC (fun w => w.cell? ⟨q7, 1, none⟩ = some (.slice xa.x.aa ha.v.act.length xa.x.ac) ∧ w.cell? ⟨q7, 2, none⟩ = some (.int .i64 ha.v.am)), z.val.cell? ⟨q7, 2, none⟩ = some (.int .i64 ha.v.am) := fun z => z.ok.2
                  refine wp_region_plan [3, 7, 8, 9] (Plan.seq [0, 1, 2] (.fork 3 7 (Plan.seq [4, 5, 6, 7, 8, 9] .done) (Plan.seq [3, 4, 5, 6, 8, 9] .done))) (fun w' => ∃ z : WC (fun w => w.cell? ⟨q7, 1, none⟩ = some (.slice xa.x.aa ha.v.act.length xa.x.ac) ∧ w.cell? ⟨q7, 2, none⟩ = some (.int .i64 ha.v.am)), w' = z.val) (by kernel_rfl) (by kernel_rfl) (fun c a w d v h => by cases d <;> exact h) (fun c a w d v h => by cases d <;> exact h) (by rw [← HWD.out]; exact ⟨⟨wd, ⟨ST12.out.cell 1 1 rfl rfl, ST12.out.cell 1 2 rfl rfl⟩⟩, rfl⟩) ?_
                  rw [← HWD.out]
                  clear HWD
                  refine wpV_q (by simp only [List.getElem?_toArray, List.getElem?_cons_zero] <;> rfl) (by rfl) (by rfl) ?_
                  go_big_quiet_step (fail)
                  refine wpQuiet_nil ?_
                  refine wpV_q (by simp only [List.getElem?_toArray, List.getElem?_cons_succ, List.getElem?_cons_zero] <;> rfl) (by rfl) (by rfl) ?_
                  go_big_quiet_step (fail)
                  refine wpQuiet_nil ?_
                  refine wpV_q (by simp only [List.getElem?_toArray, List.getElem?_cons_succ, List.getElem?_cons_zero] <;> rfl) (by rfl) (by rfl) ?_
                  go_big_quiet_step (fail)
                  refine wpQuiet_nil ?_
                  refine wpV_fork (by simp only [List.getElem?_toArray, List.getElem?_cons_succ, List.getElem?_cons_zero] <;> rfl) (by simp only [List.getElem?_toArray, List.getElem?_cons_succ, List.getElem?_cons_zero] <;> rfl) ?_ ?_
                  · go_wp2_with fail
                    refine (CFA.out _).mono ?_
                    rintro e wa ⟨rfl, f_⟩
                    have ST13 := Lib.hid (show Sta Wb (fun _ => True) dp ds [⟨q8, Hd.arr hb xb, 112⟩, ⟨q7, Hd.arr ha xa, 112⟩] [] (hrows ha xa (hrows hb xb [])) wa from ST12.out.gr f_)
                    clear ST12 f_
                    go_wp2_with fail
                    refine ⟨⟨⟨wa, ⟨ST13.out.cell 1 1 rfl rfl, ST13.out.cell 1 2 rfl rfl⟩⟩, rfl⟩, ?_⟩
                    refine wpV_q (by simp only [List.getElem?_toArray, List.getElem?_cons_succ, List.getElem?_cons_zero] <;> rfl) (by rfl) (by rfl) ?_
                    go_big_quiet_step (fail)
                    refine wpQuiet_nil ?_
                    refine wpV_q (by simp only [List.getElem?_toArray, List.getElem?_cons_succ, List.getElem?_cons_zero] <;> rfl) (by rfl) (by rfl) ?_
                    go_big_quiet_step (fail)
                    refine wpQuiet_nil ?_
                    refine wpV_q (by simp only [List.getElem?_toArray, List.getElem?_cons_succ, List.getElem?_cons_zero] <;> rfl) (by rfl) (by rfl) ?_
                    go_big_quiet_step (fail)
                    refine wpQuiet_nil ?_
                    refine wpV_e (by simp only [List.getElem?_toArray, List.getElem?_cons_succ, List.getElem?_cons_zero] <;> rfl) (by rfl) ?_
                    go_wp2_with fail
                    obtain ⟨wb, hw_⟩ : ∃ x, x = wa.alloc (.cells #[.slice none 0 0, .int .i64 0] 27) := ⟨_, rfl⟩
                    obtain ⟨u13, hb_⟩ : ∃ b, b = wa.heap.size := ⟨_, rfl⟩
                    rw [← hw_, ← hb_]
                    have ST14 := Lib.hid (show Sta Wb (fun _ => True) dp ds [⟨u13, #[.slice none 0 0, .int .i64 0], 27⟩, ⟨q8, Hd.arr hb xb, 112⟩, ⟨q7, Hd.arr ha xa, 112⟩] [] (hrows ha xa (hrows hb xb [])) wb from hw_ ▸ ST13.out.box _ _ hb_)
                    clear ST13 hw_ hb_
                    refine ⟨⟨⟨wb, ⟨ST14.out.cell 2 1 rfl rfl, ST14.out.cell 2 2 rfl rfl⟩⟩, rfl⟩, ?_⟩
                    refine wpV_e (by simp only [List.getElem?_toArray, List.getElem?_cons_succ, List.getElem?_cons_zero] <;> rfl) (by rfl) ?_
                    go_wp2_with fail
                    refine ⟨⟨⟨wb, ⟨ST14.out.cell 2 1 rfl rfl, ST14.out.cell 2 2 rfl rfl⟩⟩, rfl⟩, ?_⟩
                    refine wpV_e (by simp only [List.getElem?_toArray, List.getElem?_cons_succ, List.getElem?_cons_zero] <;> rfl) (by rfl) ?_
                    refine wpList_storeW (vs := #[.slice xa.x.aa ha.v.act.length xa.x.ac, .int .i64 ha.v.am]) (ST14.out.blkAt 0 rfl) (by rfl) 27 _ _ (by rfl) (by rfl) (by rfl) rfl Try.infoSet2 (by rw [← Array.all_toList]; rfl) ?_
                    intro wc1 f_ b_
                    have ST15 := Lib.hid (show Sta Wb (fun _ => True) dp ds [⟨u13, #[.slice xa.x.aa ha.v.act.length xa.x.ac, .int .i64 ha.v.am], 27⟩, ⟨q8, Hd.arr hb xb, 112⟩, ⟨q7, Hd.arr ha xa, 112⟩] [] (hrows ha xa (hrows hb xb [])) wc1 from ST14.out.store 0 rfl f_ b_)
                    clear ST14 f_ b_
                    refine wpList_nil ?_
                    refine ⟨⟨⟨wc1, ⟨ST15.out.cell 2 1 rfl rfl, ST15.out.cell 2 2 rfl rfl⟩⟩, rfl⟩, ?_⟩
                    simp only [Act.put]
                    refine wpV_done ?_
                    clear za zb this
                    go_wp2_with fail
                    go_meet
                    exact ⟨u13, rfl, rfl, ST15.out⟩
                  · go_wp2_with fail
                    obtain ⟨wa, hw_⟩ : ∃ x, x = wd.alloc (.cells #[.slice none 0 0, .int .i64 0] 27) := ⟨_, rfl⟩
                    obtain ⟨u13, hb_⟩ : ∃ b, b = wd.heap.size := ⟨_, rfl⟩
                    rw [← hw_, ← hb_]
                    have ST13 := Lib.hid (show Sta Wb (fun _ => True) dp ds [⟨u13, #[.slice none 0 0, .int .i64 0], 27⟩, ⟨q8, Hd.arr hb xb, 112⟩, ⟨q7, Hd.arr ha xa, 112⟩] [] (hrows ha xa (hrows hb xb [])) wa from hw_ ▸ ST12.out.box _ _ hb_)
                    clear ST12 hw_ hb_
                    refine ⟨⟨⟨wa, ⟨ST13.out.cell 2 1 rfl rfl, ST13.out.cell 2 2 rfl rfl⟩⟩, rfl⟩, ?_⟩
                    refine wpV_e (by simp only [List.getElem?_toArray, List.getElem?_cons_succ, List.getElem?_cons_zero] <;> rfl) (by rfl) ?_
                    go_wp2_with fail
                    refine (CFA.out _).mono ?_
                    rintro e wb ⟨rfl, f_⟩
                    have ST14 := Lib.hid (show Sta Wb (fun _ => True) dp ds [⟨u13, #[.slice none 0 0, .int .i64 0], 27⟩, ⟨q8, Hd.arr hb xb, 112⟩, ⟨q7, Hd.arr ha xa, 112⟩] [] (hrows ha xa (hrows hb xb [])) wb from ST13.out.gr f_)
                    clear ST13 f_
                    go_wp2_with fail
                    refine ⟨⟨⟨wb, ⟨ST14.out.cell 2 1 rfl rfl, ST14.out.cell 2 2 rfl rfl⟩⟩, rfl⟩, ?_⟩
                    refine wpV_q (by simp only [List.getElem?_toArray, List.getElem?_cons_succ, List.getElem?_cons_zero] <;> rfl) (by rfl) (by rfl) ?_
                    go_big_quiet_step (fail)
                    refine wpQuiet_nil ?_
                    refine wpV_q (by simp only [List.getElem?_toArray, List.getElem?_cons_succ, List.getElem?_cons_zero] <;> rfl) (by rfl) (by rfl) ?_
                    go_big_quiet_step (fail)
                    refine wpQuiet_nil ?_
                    refine wpV_q (by simp only [List.getElem?_toArray, List.getElem?_cons_succ, List.getElem?_cons_zero] <;> rfl) (by rfl) (by rfl) ?_
                    go_big_quiet_step (fail)
                    refine wpQuiet_nil ?_
                    refine wpV_e (by simp only [List.getElem?_toArray, List.getElem?_cons_succ, List.getElem?_cons_zero] <;> rfl) (by rfl) ?_
                    go_wp2_with fail
                    refine ⟨⟨⟨wb, ⟨ST14.out.cell 2 1 rfl rfl, ST14.out.cell 2 2 rfl rfl⟩⟩, rfl⟩, ?_⟩
                    refine wpV_e (by simp only [List.getElem?_toArray, List.getElem?_cons_succ, List.getElem?_cons_zero] <;> rfl) (by rfl) ?_
                    refine wpList_storeW (vs := #[.slice xa.x.aa ha.v.act.length xa.x.ac, .int .i64 ha.v.am]) (ST14.out.blkAt 0 rfl) (by rfl) 27 _ _ (by rfl) (by rfl) (by rfl) rfl Try.infoSet2 (by rw [← Array.all_toList]; rfl) ?_
                    intro wc1 f_ b_
                    have ST15 := Lib.hid (show Sta Wb (fun _ => True) dp ds [⟨u13, #[.slice xa.x.aa ha.v.act.length xa.x.ac, .int .i64 ha.v.am], 27⟩, ⟨q8, Hd.arr hb xb, 112⟩, ⟨q7, Hd.arr ha xa, 112⟩] [] (hrows ha xa (hrows hb xb [])) wc1 from ST14.out.store 0 rfl f_ b_)
                    clear ST14 f_ b_
                    refine wpList_nil ?_
                    refine ⟨⟨⟨wc1, ⟨ST15.out.cell 2 1 rfl rfl, ST15.out.cell 2 2 rfl rfl⟩⟩, rfl⟩, ?_⟩
                    simp only [Act.put]
                    refine wpV_done ?_
                    clear za zb this
                    go_wp2_with fail
                    go_meet
                    exact ⟨u13, rfl, rfl, ST15.out⟩
                case rest =>
                  obtain ⟨u13, rfl, rfl, hst⟩ := hcut
                  generalize wc = w10 at hst ⊢
                  have ST20 := Lib.hid hst
                  clear hst ST11 CFA
                  obtain ⟨hAe, hK⟩ := shake_ask PA.out high
                  have CPA := Lib.hid (fun O w (h1 : Sta w O dp ds [] [] (hrows ha xa []) w) => handAsk_any ha xa 2 high dp ds O w h1 PA.out.hi.good)
                  rw [hAe] at CPA
                  simp only at CPA
                  have HK := Lib.hid hK
                  clear hAe hK
                  go_upto_region 17 with fail
                  refine wp_region_lit ?_
                  refine wpList_load_mid (by rfl) 112 _ (by rfl) q7 0 (by rfl) (Array.toList (Hd.arr ha xa)) _ (blk_range (ST20.out.blkAt 2 rfl)) Try.underlying112 rfl Try.infoHand ?_
                  go_wp2_with fail
                  refine (CPA.out _ _ (ST20.out.enter (hrows ha xa []) (inC (at_ 0 rfl) (inC (at_ 1 rfl) (inC (at_ 2 rfl) inN))))).mono ?_
                  intro e w11 hst
                  obtain ⟨xa1, ov, rfl, hst2, -⟩ := hst
                  have ST21 := Lib.hid (show Sta Wb (fun _ => True) dp ds [⟨u13, #[.slice xa.x.aa ha.v.act.length xa.x.ac, .int .i64 ha.v.am], 27⟩, ⟨q8, Hd.arr hb xb, 112⟩, ⟨q7, Hd.arr ha xa, 112⟩] [⟨91, 8, ov, 1, houts [⟨2, 3, high⟩]⟩] (hrows (⟨ha.v, [2]⟩ : Hd) xa1 (hrows ha xa (hrows hb xb []))) w11 from ST20.out.leave (inC (at_ 0 rfl) (inC (at_ 1 rfl) (inC (at_ 2 rfl) inN))) hst2)
                  clear hst2 ST20
                  clear CPA
                  obtain ⟨oa, oc, rfl, hst⟩ := ST21.out.asRow 0 rfl
                  have ST22 := Lib.hid (show Sta Wb (fun _ => True) dp ds [⟨u13, #[.slice xa.x.aa ha.v.act.length xa.x.ac, .int .i64 ha.v.am], 27⟩, ⟨q8, Hd.arr hb xb, 112⟩, ⟨q7, Hd.arr ha xa, 112⟩] [] (⟨oa, 1, oc, houts [⟨2, 3, high⟩]⟩ :: hrows (⟨ha.v, [2]⟩ : Hd) xa1 (hrows ha xa (hrows hb xb []))) w11 from hst)
                  clear hst ST21
                  go_wp2_with (refine wpList_storeW (vs := Hd.arr (⟨ha.v, [2]⟩ : Hd) xa1) (ST22.out.blkAt 2 rfl) (by rfl) 112 _ _ (by rfl) (by rfl) (by rfl) rfl Try.infoHand (by rw [← Array.all_toList]; rfl) ?_)
                  intro w12 f_ b_
                  have ST23 := Lib.hid (show Sta Wb (fun _ => True) dp ds [⟨u13, #[.slice xa.x.aa ha.v.act.length xa.x.ac, .int .i64 ha.v.am], 27⟩, ⟨q8, Hd.arr hb xb, 112⟩, ⟨q7, Hd.arr (⟨ha.v, [2]⟩ : Hd) xa1, 112⟩] [] (⟨oa, 1, oc, houts [⟨2, 3, high⟩]⟩ :: hrows (⟨ha.v, [2]⟩ : Hd) xa1 (hrows ha xa (hrows hb xb []))) w12 from ST22.out.store 2 rfl f_ b_)
                  clear ST22 f_ b_
                  have m05 := (ST23.out.rowAt 0 rfl).le
                  have m06 := (ST23.out.rowAt 0 rfl).max
                  obtain ⟨bo, oo, rfl, hc⟩ := SlA.elem (f := Ho.cells) (n := 8) (fun _ => rfl) (by decide) (l := [⟨2, 3, high⟩]) (ST23.out.rowAt 0 rfl) 0 (by simp)
                  simp only [Nat.zero_mul, Nat.add_zero, List.getElem_cons_zero] at hc
                  have g0 : w12.cell? ⟨bo, oo, none⟩ = some (.int .i64 2) := hc 0 _ rfl
                  have g4 : w12.cell? ⟨bo, oo + 4, none⟩ = some (.bool high) := hc 4 _ rfl
                  have hbo := lt_of_cell g4
                  clear hc
                  go_upto_region 20 with fail
                  clear g0 m05 m06
                  have CPB := Lib.hid (fun O w (h1 : Sta w O dp ds [] [] (hrows hb xb []) w) => handOnAsk_any hb xb 1 high dp ds O w h1 PB.out.hi.good)
                  obtain ⟨an, hAn⟩ := shake_answer PB.out high ST23.out.dr.range
                  obtain ⟨hb2, o2, d2, e8⟩ : ∃ a b c, hOnAsk hb 1 high ds = (a, b, c) := ⟨_, _, _, rfl⟩
                  rw [e8] at CPB hAn
                  simp only at CPB hAn
                  obtain ⟨ll, hll, hln⟩ := hAn.out
                  have HAn := Lib.hid (And.intro hAn.who (And.intro hAn.kind (And.intro hAn.has hAn.good)))
                  obtain ⟨nl, hnl⟩ : ∃ n, n = ll.length := ⟨_, rfl⟩
                  have HO2 := Lib.hid (show o2.length = nl + 1 ∧ nl ≤ 1 ∧ o2[nl]? = some an by rw [hll, hnl]; exact ⟨by simp, hln, by simp⟩)
                  clear hAn hll hln hnl e8
                  clear g4 hbo
                  obtain ⟨wz, hwd⟩ : ∃ x, x = w12.drew := ⟨_, rfl⟩
                  have HWD := Lib.hid hwd
                  have ST24 := Lib.hid (show Sta Wb (fun _ => True) dp ds [⟨u13, #[.slice xa.x.aa ha.v.act.length xa.x.ac, .int .i64 ha.v.am], 27⟩, ⟨q8, Hd.arr hb xb, 112⟩, ⟨q7, Hd.arr (⟨ha.v, [2]⟩ : Hd) xa1, 112⟩] [] (⟨some ⟨bo, oo, none⟩, 1, oc, houts [⟨2, 3, high⟩]⟩ :: hrows (⟨ha.v, [2]⟩ : Hd) xa1 (hrows ha xa (hrows hb xb []))) wz from hwd ▸ ST23.out.gr ((Fr.refl _ _).drew))
                  clear ST23 hwd
                  haveI : Nonempty (WC (fun w => w.cell? ⟨bo, oo + 4, none⟩ = some (.bool high))) := ⟨⟨wz, ST24.out.rowCell 0 4 rfl rfl⟩⟩
                  have zc : ∀ z : WC (fun w => w.cell? ⟨bo, oo + 4, none⟩ = some (.bool high)), z.val.cell? ⟨bo, oo + 4, none⟩ = some (.bool high) := fun z => z.ok
                  refine wp_region_plan [0, 7, 11, 12] (Plan.seq [0, 1, 2, 3, 4, 5, 6, 7, 8, 9, 10, 11, 12] .done) (fun w' => ∃ z : WC (fun w => w.cell? ⟨bo, oo + 4, none⟩ = some (.bool high)), w' = z.val) (by kernel_rfl) (by kernel_rfl) (fun c a w d v h => by cases d <;> exact h) (fun c a w d v h => by cases d <;> exact h) (by rw [← HWD.out]; exact ⟨⟨wz, ST24.out.rowCell 0 4 rfl rfl⟩, rfl⟩) ?_
                  rw [← HWD.out]
                  clear HWD
                  refine wpV_e (by simp only [List.getElem?_toArray, List.getElem?_cons_zero] <;> rfl) (by rfl) ?_
                  refine wpList_load_mid (by rfl) 112 _ (by rfl) q8 0 (by rfl) (Array.toList (Hd.arr hb xb)) _ (blk_range (ST24.out.blkAt 1 rfl)) Try.underlying112 rfl Try.infoHand ?_
                  refine wpList_nil ?_
                  refine ⟨⟨⟨wz, ST24.out.rowCell 0 4 rfl rfl⟩, rfl⟩, ?_⟩
                  simp only [Act.put, List.setIfInBounds_toArray, List.set_cons_succ, List.set_cons_zero]
                  refine wpV_q (by simp only [List.getElem?_toArray, List.getElem?_cons_succ, List.getElem?_cons_zero] <;> rfl) (by rfl) (by rfl) ?_
                  go_big_quiet_step (fail)
                  refine wpQuiet_nil ?_
                  refine wpV_q (by simp only [List.getElem?_toArray, List.getElem?_cons_succ, List.getElem?_cons_zero] <;> rfl) (by rfl) (by rfl) ?_
                  go_big_quiet_step (fail)
                  refine wpQuiet_nil ?_
                  refine wpV_q (by simp only [List.getElem?_toArray, List.getElem?_cons_succ, List.getElem?_cons_zero] <;> rfl) (by rfl) (by rfl) ?_
                  go_big_quiet_step (fail)
                  refine wpQuiet_nil ?_
                  refine wpV_q (by simp only [List.getElem?_toArray, List.getElem?_cons_succ, List.getElem?_cons_zero] <;> rfl) (by rfl) (by rfl) ?_
                  go_big_quiet_step (fail)
                  refine wpQuiet_nil ?_
                  refine wpV_q (by simp only [List.getElem?_toArray, List.getElem?_cons_succ, List.getElem?_cons_zero] <;> rfl) (by rfl) (by rfl) ?_
                  go_big_quiet_step (fail)
                  refine wpQuiet_nil ?_
                  refine wpV_q (by simp only [List.getElem?_toArray, List.getElem?_cons_succ, List.getElem?_cons_zero] <;> rfl) (by rfl) (by rfl) ?_
                  go_big_quiet_step (fail)
                  refine wpQuiet_nil ?_
                  refine wpV_e (by simp only [List.getElem?_toArray, List.getElem?_cons_succ, List.getElem?_cons_zero] <;> rfl) (by rfl) ?_
                  go_wp2_with fail
                  refine (CPB.out _ _ (ST24.out.enter (hrows hb xb []) (inC (at_ 7 rfl) (inC (at_ 8 rfl) (inC (at_ 9 rfl) inN))))).mono ?_
                  intro e wa hst
                  obtain ⟨xb2, ov, rfl, hst2, -⟩ := hst
                  have ST25 := Lib.hid (show Sta Wb (fun _ => True) dp d2 [⟨u13, #[.slice xa.x.aa ha.v.act.length xa.x.ac, .int .i64 ha.v.am], 27⟩, ⟨q8, Hd.arr hb xb, 112⟩, ⟨q7, Hd.arr (⟨ha.v, [2]⟩ : Hd) xa1, 112⟩] [⟨91, 8, ov, o2.length, houts o2⟩] (hrows hb2 xb2 (⟨some ⟨bo, oo, none⟩, 1, oc, houts [⟨2, 3, high⟩]⟩ :: hrows (⟨ha.v, [2]⟩ : Hd) xa1 (hrows ha xa (hrows hb xb [])))) wa from ST24.out.leave (inC (at_ 7 rfl) (inC (at_ 8 rfl) (inC (at_ 9 rfl) inN))) hst2)
                  clear hst2 ST24
                  go_wp2_with fail
                  refine ⟨⟨⟨wa, ST25.out.rowCell 3 4 rfl rfl⟩, rfl⟩, ?_⟩
                  refine wpV_q (by simp only [List.getElem?_toArray, List.getElem?_cons_succ, List.getElem?_cons_zero] <;> rfl) (by rfl) (by rfl) ?_
                  go_big_quiet_step (fail)
                  refine wpQuiet_nil ?_
                  refine wpV_q (by simp only [List.getElem?_toArray, List.getElem?_cons_succ, List.getElem?_cons_zero] <;> rfl) (by rfl) (by rfl) ?_
                  go_big_quiet_step (fail)
                  refine wpQuiet_nil ?_
                  refine wpV_q (by simp only [List.getElem?_toArray, List.getElem?_cons_succ, List.getElem?_cons_zero] <;> rfl) (by rfl) (by rfl) ?_
                  go_big_quiet_step (fail)
                  refine wpQuiet_nil ?_
                  refine wpV_e (by simp only [List.getElem?_toArray, List.getElem?_cons_succ, List.getElem?_cons_zero] <;> rfl) (by rfl) ?_
                  refine wpList_storeW (vs := hb2.arr xb2) (ST25.out.blkAt 1 rfl) (by rfl) 112 _ _ (by rfl) (by rfl) (by rfl) rfl Try.infoHand (by rw [← Array.all_toList]; rfl) ?_
                  intro wb f_ b_
                  have ST26 := Lib.hid (show Sta Wb (fun _ => True) dp d2 [⟨u13, #[.slice xa.x.aa ha.v.act.length xa.x.ac, .int .i64 ha.v.am], 27⟩, ⟨q8, hb2.arr xb2, 112⟩, ⟨q7, Hd.arr (⟨ha.v, [2]⟩ : Hd) xa1, 112⟩] [⟨91, 8, ov, o2.length, houts o2⟩] (hrows hb2 xb2 (⟨some ⟨bo, oo, none⟩, 1, oc, houts [⟨2, 3, high⟩]⟩ :: hrows (⟨ha.v, [2]⟩ : Hd) xa1 (hrows ha xa (hrows hb xb [])))) wb from ST25.out.store 1 rfl f_ b_)
                  clear ST25 f_ b_
                  refine wpList_nil ?_
                  refine ⟨⟨⟨wb, ST26.out.rowCell 3 4 rfl rfl⟩, rfl⟩, ?_⟩
                  simp only [Act.put]
                  refine wpV_e (by simp only [List.getElem?_toArray, List.getElem?_cons_succ, List.getElem?_cons_zero] <;> rfl) (by rfl) ?_
                  go_wp2_with fail
                  refine ⟨⟨⟨wb, ST26.out.rowCell 3 4 rfl rfl⟩, rfl⟩, ?_⟩
                  refine wpV_done ?_
                  clear zc this CPB
                  obtain ⟨pa, pc, rfl, hst⟩ := ST26.out.asRow 0 rfl
                  have ST27 := Lib.hid (show Sta Wb (fun _ => True) dp d2 [⟨u13, #[.slice xa.x.aa ha.v.act.length xa.x.ac, .int .i64 ha.v.am], 27⟩, ⟨q8, hb2.arr xb2, 112⟩, ⟨q7, Hd.arr (⟨ha.v, [2]⟩ : Hd) xa1, 112⟩] [] (⟨pa, o2.length, pc, houts o2⟩ :: hrows hb2 xb2 (⟨some ⟨bo, oo, none⟩, 1, oc, houts [⟨2, 3, high⟩]⟩ :: hrows (⟨ha.v, [2]⟩ : Hd) xa1 (hrows ha xa (hrows hb xb [])))) wb from hst)
                  clear hst ST26
                  obtain ⟨br, ro, rfl, hc⟩ := SlA.elem (f := Ho.cells) (n := 8) (fun _ => rfl) (by decide) (ST27.out.rowAt 0 rfl) nl (by have := HO2.out.1; omega)
                  rw [show o2[nl]'(by have := HO2.out.1; omega) = an from by have h := HO2.out.2.2; rw [List.getElem?_eq_getElem (by have := HO2.out.1; omega)] at h; exact Option.some.inj h] at hc
                  have m05 : nl + 1 ≤ pc := by have := (ST27.out.rowAt 0 rfl).le; have := HO2.out.1; omega
                  have m06 := (ST27.out.rowAt 0 rfl).max
                  have m07 : nl ≤ 1 := HO2.out.2.1
                  have HCC := Lib.hid hc
                  clear hc
                  rw [HO2.out.1]
                  go_upto_region 21 with fail
                  go_wp2_with (refine wpList_load_mid (by rfl) 91 _ (by rfl) br (ro + nl * 8) (by rfl) (Array.toList (Ho.arr an)) _ (fun j v hj => HCC.out j v hj) Try.underlying91 rfl Try.infoOutH ?_; refine wpList_fresh (vs := Ho.arr an) ho1 ho2 Try.infoOutH (by rfl) (by rw [← Array.all_toList]; rfl) (by rfl) (by rfl) ?_)
                  intro w13 f_ b_ l_
                  obtain ⟨z, hb_⟩ : ∃ b, b = wb.heap.size := ⟨_, rfl⟩
                  rw [← hb_] at b_ l_ ⊢
                  have ST28 := Lib.hid (show Sta Wb (fun _ => True) dp d2 [⟨z, Ho.arr an, 91⟩, ⟨u13, #[.slice xa.x.aa ha.v.act.length xa.x.ac, .int .i64 ha.v.am], 27⟩, ⟨q8, hb2.arr xb2, 112⟩, ⟨q7, Hd.arr (⟨ha.v, [2]⟩ : Hd) xa1, 112⟩] [] (⟨some ⟨br, ro, none⟩, o2.length, pc, houts o2⟩ :: hrows hb2 xb2 (⟨some ⟨bo, oo, none⟩, 1, oc, houts [⟨2, 3, high⟩]⟩ :: hrows (⟨ha.v, [2]⟩ : Hd) xa1 (hrows ha xa (hrows hb xb [])))) w13 from ST27.out.var f_ b_ (Nat.le_of_eq hb_.symm))
                  clear ST27 f_ b_ l_ hb_ HCC
                  obtain ⟨wh, kd, hgg⟩ := an
                  obtain ⟨hwh, hkd, hhs, hgd⟩ := HAn.out
                  simp only at hwh hkd
                  subst hwh
                  generalize vaFull hb.v = F at hkd hhs ⊢
                  have HS := Lib.hid hhs
                  have HGD := Lib.hid hgd
                  have HKD := Lib.hid hkd
                  clear hkd hhs hgd HAn HO2
                  have z0 : w13.cell? ⟨z, 0, none⟩ = some (.int .i64 1) := ST28.out.cell 0 0 rfl rfl
                  have z1 : w13.cell? ⟨z, 1, none⟩ = some (.int .i64 kd) := ST28.out.cell 0 1 rfl rfl
                  go_upto_region 22 with fail
                  go_cut [173] from 142 to 172 (fun c wx => c = .bool false ∧ w13 = wx)
                  case first =>
                    cases high
                    case false =>
                      cases F
                      case false =>
                        have hk : kd = 4 := by rw [HKD.out]; decide
                        subst hk
                        go_wp2_with fail
                        go_meet
                        exact ⟨by rw [decide_eq_false (by omega)], rfl⟩
                      case true =>
                        have hk : kd = 5 := by rw [HKD.out]; decide
                        subst hk
                        go_wp2_with fail
                        go_meet
                        exact ⟨by rw [decide_eq_false (by omega)], rfl⟩
                    case true =>
                      have hk : kd = 4 := by rw [HKD.out]; simp
                      subst hk
                      cases F
                      case false =>
                        go_wp2_with fail
                        go_meet
                        exact ⟨by rw [decide_eq_false (by omega)], rfl⟩
                      case true =>
                        go_wp2_with fail
                        go_meet
                        exact ⟨by rw [decide_eq_false (by omega)], rfl⟩
                  case rest =>
                    obtain ⟨rfl, rfl⟩ := hcut
                    clear z0 z1
                    by_cases hcc : high = true ∨ F = false
                    · obtain rfl : kd = 4 := by rw [HKD.out, if_pos hcc]
                      have HS1 : Hid (has hb2.v.act 1 = true) := Lib.hid (by rw [HS.out]; exact decide_eq_true hcc)
                      clear HKD HS hcc
                      have hY := shake_yes PA.out HK.out ST28.out.dr.range
                      have CPY := Lib.hid (fun O w (h1 : Sta w O dp d2 [] [] (hrows ⟨ha.v, [2]⟩ xa1 []) w) => handOnYes_any ⟨ha.v, [2]⟩ xa1 2 dp d2 O w h1 HK.out.good)
                      obtain ⟨ha3, o3, d3, e8⟩ : ∃ a b c, hOnYes ⟨ha.v, [2]⟩ 2 d2 = (a, b, c) := ⟨_, _, _, rfl⟩
                      rw [e8] at CPY hY
                      simp only at CPY hY
                      have HY := Lib.hid hY
                      clear hY e8
                      have z1 : w13.cell? ⟨z, 1, none⟩ = some (.int .i64 4) := ST28.out.cell 0 1 rfl rfl
                      go_upto_region 27 with fail
                      clear z1
                      refine wp_region_lit ?_
                      refine wpList_load_mid (by rfl) 112 _ (by rfl) q7 0 (by rfl) (Array.toList (Hd.arr (⟨ha.v, [2]⟩ : Hd) xa1)) _ (blk_range (ST28.out.blkAt 3 rfl)) Try.underlying112 rfl Try.infoHand ?_
                      go_wp2_with fail
                      refine (CPY.out _ _ (ST28.out.enter (hrows (⟨ha.v, [2]⟩ : Hd) xa1 []) (inC (at_ 5 rfl) (inC (at_ 6 rfl) (inC (at_ 7 rfl) inN))))).mono ?_
                      intro e w14 hst
                      obtain ⟨xa3, ov, rfl, hst2, -⟩ := hst
                      have ST29 := Lib.hid (show Sta Wb (fun _ => True) dp d3 [⟨z, Ho.arr ⟨1, 4, hgg⟩, 91⟩, ⟨u13, #[.slice xa.x.aa ha.v.act.length xa.x.ac, .int .i64 ha.v.am], 27⟩, ⟨q8, hb2.arr xb2, 112⟩, ⟨q7, Hd.arr (⟨ha.v, [2]⟩ : Hd) xa1, 112⟩] [⟨91, 8, ov, o3.length, houts o3⟩] (hrows ha3 xa3 (⟨some ⟨br, ro, none⟩, o2.length, pc, houts o2⟩ :: hrows hb2 xb2 (⟨some ⟨bo, oo, none⟩, 1, oc, houts [⟨2, 3, high⟩]⟩ :: hrows (⟨ha.v, [2]⟩ : Hd) xa1 (hrows ha xa (hrows hb xb []))))) w14 from ST28.out.leave (inC (at_ 5 rfl) (inC (at_ 6 rfl) (inC (at_ 7 rfl) inN))) hst2)
                      clear hst2 ST28
                      clear CPY
                      obtain ⟨qa, qc, rfl, hst⟩ := ST29.out.asRow 0 rfl
                      have ST30 := Lib.hid (show Sta Wb (fun _ => True) dp d3 [⟨z, Ho.arr ⟨1, 4, hgg⟩, 91⟩, ⟨u13, #[.slice xa.x.aa ha.v.act.length xa.x.ac, .int .i64 ha.v.am], 27⟩, ⟨q8, hb2.arr xb2, 112⟩, ⟨q7, Hd.arr (⟨ha.v, [2]⟩ : Hd) xa1, 112⟩] [] (⟨qa, o3.length, qc, houts o3⟩ :: hrows ha3 xa3 (⟨some ⟨br, ro, none⟩, o2.length, pc, houts o2⟩ :: hrows hb2 xb2 (⟨some ⟨bo, oo, none⟩, 1, oc, houts [⟨2, 3, high⟩]⟩ :: hrows (⟨ha.v, [2]⟩ : Hd) xa1 (hrows ha xa (hrows hb xb []))))) w14 from hst)
                      clear hst ST29
                      go_wp2_with (refine wpList_storeW (vs := ha3.arr xa3) (ST30.out.blkAt 3 rfl) (by rfl) 112 _ _ (by rfl) (by rfl) (by rfl) rfl Try.infoHand (by rw [← Array.all_toList]; rfl) ?_)
                      intro w15 f_ b_
                      have ST31 := Lib.hid (show Sta Wb (fun _ => True) dp d3 [⟨z, Ho.arr ⟨1, 4, hgg⟩, 91⟩, ⟨u13, #[.slice xa.x.aa ha.v.act.length xa.x.ac, .int .i64 ha.v.am], 27⟩, ⟨q8, hb2.arr xb2, 112⟩, ⟨q7, ha3.arr xa3, 112⟩] [] (⟨qa, o3.length, qc, houts o3⟩ :: hrows ha3 xa3 (⟨some ⟨br, ro, none⟩, o2.length, pc, houts o2⟩ :: hrows hb2 xb2 (⟨some ⟨bo, oo, none⟩, 1, oc, houts [⟨2, 3, high⟩]⟩ :: hrows (⟨ha.v, [2]⟩ : Hd) xa1 (hrows ha xa (hrows hb xb []))))) w15 from ST30.out.store 3 rfl f_ b_)
                      clear ST30 f_ b_
                      obtain ⟨hg3, hh3, ha3e, ho3⟩ := HY.out
                      have HG3 := Lib.hid hg3
                      have HH3 := Lib.hid hh3
                      have CH2 := Lib.hid (fun w (h1 : SlA w xa3.x.aa ha3.v.act.length xa3.x.ac (ints ha3.v.act)) => setHas_any xa3.x.aa xa3.x.ac ha3.v.act ha3.v.am 2 w h1 HG3.out.v.act)
                      rw [hh3] at CH2
                      have CH1 := Lib.hid (fun w (h1 : SlA w xb2.x.aa hb2.v.act.length xb2.x.ac (ints hb2.v.act)) => setHas_any xb2.x.aa xb2.x.ac hb2.v.act hb2.v.am 1 w h1 HGD.out.v.act)
                      rw [HS1.out] at CH1
                      have CLn := Lib.hid (fun w => setLen_any xa3.ka ha3.asked.length xa3.kc 64 w)
                      rw [ha3e] at CLn
                      clear hg3 hh3
                      have m11 := (ST31.out.rowAt 1 rfl).le
                      have m12 := (ST31.out.rowAt 1 rfl).max
                      have m13 := (ST31.out.rowAt 3 rfl).le
                      have m14 := (ST31.out.rowAt 3 rfl).max
                      have m15 := (ST31.out.rowAt 5 rfl).le
                      have m16 := (ST31.out.rowAt 5 rfl).max
                      have m17 := (ST31.out.rowAt 0 rfl).le
                      have m18 := (ST31.out.rowAt 0 rfl).max
                      generalize vaFull ha.v = FA at ho3 ⊢
                      have HO3 : Hid (FA = decide (o3.length = 1) ∧ o3.length ≤ 1 ∧ (o3.length = 1 → ∃ old, o3 = [⟨old, 6, false⟩] ∧ has ha.v.act old = true ∧ has ha3.v.act old = false)) := Lib.hid (by
                        rcases ho3 with ⟨rfl, rfl⟩ | ⟨rfl, old, rfl, o1, o2⟩
                        · exact ⟨rfl, by decide, fun h => by cases h⟩
                        · exact ⟨rfl, by simp, fun _ => ⟨old, rfl, o1, o2⟩⟩)
                      clear ho3
                      have a1 : w15.cell? ⟨q7, 1, none⟩ = some (.slice xa3.x.aa ha3.v.act.length xa3.x.ac) := ST31.out.cell 3 1 rfl rfl
                      have a2 : w15.cell? ⟨q7, 2, none⟩ = some (.int .i64 ha3.v.am) := ST31.out.cell 3 2 rfl rfl
                      go_upto_region 28 with fail
                      go_cut [242] from 213 to 241 (fun c wx => c = .bool false ∧ Sta Wb (fun _ => True) dp d3 [⟨z, Ho.arr ⟨1, 4, hgg⟩, 91⟩, ⟨u13, #[.slice xa.x.aa ha.v.act.length xa.x.ac, .int .i64 ha.v.am], 27⟩, ⟨q8, hb2.arr xb2, 112⟩, ⟨q7, ha3.arr xa3, 112⟩] [] (⟨qa, o3.length, qc, houts o3⟩ :: hrows ha3 xa3 (⟨some ⟨br, ro, none⟩, o2.length, pc, houts o2⟩ :: hrows hb2 xb2 (⟨some ⟨bo, oo, none⟩, 1, oc, houts [⟨2, 3, high⟩]⟩ :: hrows (⟨ha.v, [2]⟩ : Hd) xa1 (hrows ha xa (hrows hb xb []))))) wx)
                      case first =>
                        go_wp2_with fail
                        refine (CH2.out _ (ST31.out.rowAt 1 rfl)).mono ?_
                        rintro e w16 ⟨rfl, f_⟩
                        clear a1 a2
                        have ST32 := Lib.hid (show Sta Wb (fun _ => True) dp d3 [⟨z, Ho.arr ⟨1, 4, hgg⟩, 91⟩, ⟨u13, #[.slice xa.x.aa ha.v.act.length xa.x.ac, .int .i64 ha.v.am], 27⟩, ⟨q8, hb2.arr xb2, 112⟩, ⟨q7, ha3.arr xa3, 112⟩] [] (⟨qa, o3.length, qc, houts o3⟩ :: hrows ha3 xa3 (⟨some ⟨br, ro, none⟩, o2.length, pc, houts o2⟩ :: hrows hb2 xb2 (⟨some ⟨bo, oo, none⟩, 1, oc, houts [⟨2, 3, high⟩]⟩ :: hrows (⟨ha.v, [2]⟩ : Hd) xa1 (hrows ha xa (hrows hb xb []))))) w16 from ST31.out.gr f_)
                        clear ST31 f_
                        have b1 : w16.cell? ⟨q8, 1, none⟩ = some (.slice xb2.x.aa hb2.v.act.length xb2.x.ac) := ST32.out.cell 2 1 rfl rfl
                        have b2 : w16.cell? ⟨q8, 2, none⟩ = some (.int .i64 hb2.v.am) := ST32.out.cell 2 2 rfl rfl
                        go_wp2_with fail
                        refine (CH1.out _ (ST32.out.rowAt 5 rfl)).mono ?_
                        rintro e w17 ⟨rfl, f_⟩
                        clear b1 b2
                        have ST33 := Lib.hid (show Sta Wb (fun _ => True) dp d3 [⟨z, Ho.arr ⟨1, 4, hgg⟩, 91⟩, ⟨u13, #[.slice xa.x.aa ha.v.act.length xa.x.ac, .int .i64 ha.v.am], 27⟩, ⟨q8, hb2.arr xb2, 112⟩, ⟨q7, ha3.arr xa3, 112⟩] [] (⟨qa, o3.length, qc, houts o3⟩ :: hrows ha3 xa3 (⟨some ⟨br, ro, none⟩, o2.length, pc, houts o2⟩ :: hrows hb2 xb2 (⟨some ⟨bo, oo, none⟩, 1, oc, houts [⟨2, 3, high⟩]⟩ :: hrows (⟨ha.v, [2]⟩ : Hd) xa1 (hrows ha xa (hrows hb xb []))))) w17 from ST32.out.gr f_)
                        clear ST32 f_
                        have a5 : w17.cell? ⟨q7, 5, none⟩ = some (.slice xa3.ka ha3.asked.length xa3.kc) := ST33.out.cell 3 5 rfl rfl
                        have a6 : w17.cell? ⟨q7, 6, none⟩ = some (.int .i64 64) := ST33.out.cell 3 6 rfl rfl
                        rw [ha3e] at a5
                        go_wp2_with fail
                        refine (CLn.out _).mono ?_
                        rintro e w18 ⟨rfl, f_⟩
                        clear a5 a6
                        have ST34 := Lib.hid (show Sta Wb (fun _ => True) dp d3 [⟨z, Ho.arr ⟨1, 4, hgg⟩, 91⟩, ⟨u13, #[.slice xa.x.aa ha.v.act.length xa.x.ac, .int .i64 ha.v.am], 27⟩, ⟨q8, hb2.arr xb2, 112⟩, ⟨q7, ha3.arr xa3, 112⟩] [] (⟨qa, o3.length, qc, houts o3⟩ :: hrows ha3 xa3 (⟨some ⟨br, ro, none⟩, o2.length, pc, houts o2⟩ :: hrows hb2 xb2 (⟨some ⟨bo, oo, none⟩, 1, oc, houts [⟨2, 3, high⟩]⟩ :: hrows (⟨ha.v, [2]⟩ : Hd) xa1 (hrows ha xa (hrows hb xb []))))) w18 from ST33.out.gr f_)
                        clear ST33 f_
                        obtain ⟨c1', c2', -⟩ := HO3.out
                        by_cases hl1 : o3.length = 1
                        · obtain rfl : FA = true := by rw [c1']; exact decide_eq_true hl1
                          have hq1 : ((o3.length : Int) == 1) = true := by rw [hl1]; rfl
                          have hq2 : decide ((1 : Int) < (o3.length : Int)) = false := decide_eq_false (by omega)
                          clear c1' c2' hl1
                          go_wp2_with fail
                          go_meet
                          exact ⟨rfl, ST34.out⟩
                        · obtain rfl : FA = false := by rw [c1']; exact decide_eq_false hl1
                          have hl0 : o3.length = 0 := by omega
                          have hq1 : ((o3.length : Int) == 1) = false := by rw [hl0]; rfl
                          have hq2 : decide ((1 : Int) < (o3.length : Int)) = false := decide_eq_false (by omega)
                          clear c1' c2' hl0 hl1
                          go_wp2_with fail
                          go_meet
                          exact ⟨rfl, ST34.out⟩
                      case rest =>
                        obtain ⟨rfl, hst⟩ := hcut
                        generalize wc = w19 at hst ⊢
                        have ST60 := Lib.hid hst
                        have GE := Lib.hid (show ∀ w, Gr w19 w → Gr W w from fun w f => Fr.trans FB.out (Fr.trans ST60.out.fr f (fun _ h => h.elim)) (fun k hk => .inr (HPW2.out k hk)))
                        clear hst a1 a2 CH1 CH2 CLn HH3
                        by_cases hl1 : o3.length = 1
                        · obtain ⟨old, ho3, hw1, hw2⟩ := HO3.out.2.2 hl1
                          have CHA := Lib.hid (fun w (f : Gr w19 w) => setHas_any xa.x.aa xa.x.ac ha.v.act ha.v.am old w ((ST60.out.gr f).rowAt 12 rfl) PA.out.hi.good.v.act)
                          rw [hw1] at CHA
                          have CH3 := Lib.hid (fun w (f : Gr w19 w) => setHas_any xa3.x.aa xa3.x.ac ha3.v.act ha3.v.am old w ((ST60.out.gr f).rowAt 1 rfl) HG3.out.v.act)
                          rw [hw2] at CH3
                          obtain ⟨bq, oq, rfl, hc⟩ := SlA.elem (f := Ho.cells) (n := 8) (fun _ => rfl) (by decide) (ST60.out.rowAt 0 rfl) 0 (by omega)
                          rw [show o3[0]'(by omega) = ⟨old, 6, false⟩ by simp [ho3]] at hc
                          simp only [Nat.zero_mul, Nat.add_zero] at hc
                          have hq1 : ((o3.length : Int) == 0) = false := by rw [hl1]; rfl
                          have hq3 : decide ((0 : Int) < (o3.length : Int)) = true := decide_eq_true (by omega)
                          have hq4 : 0 < o3.length := by omega
                          have HQ := Lib.hid hc
                          clear ho3 hw1 hw2 hc hl1
                          go_upto_region 30 with fail
                          haveI : Nonempty (WC (Gr w19)) := ⟨⟨w19, Fr.refl _ _⟩⟩
                          have u0 : ∀ z2 : WC (Gr w19), z2.val.cell? ⟨u13, 0, none⟩ = some (.slice xa.x.aa ha.v.act.length xa.x.ac) := fun z2 => z2.ok.cell (ST60.out.cell 1 0 rfl rfl) (fun h => h)
                          have u1 : ∀ z2 : WC (Gr w19), z2.val.cell? ⟨u13, 1, none⟩ = some (.int .i64 ha.v.am) := fun z2 => z2.ok.cell (ST60.out.cell 1 1 rfl rfl) (fun h => h)
                          have a1 : ∀ z2 : WC (Gr w19), z2.val.cell? ⟨q7, 1, none⟩ = some (.slice xa3.x.aa ha3.v.act.length xa3.x.ac) := fun z2 => z2.ok.cell (ST60.out.cell 3 1 rfl rfl) (fun h => h)
                          have a2 : ∀ z2 : WC (Gr w19), z2.val.cell? ⟨q7, 2, none⟩ = some (.int .i64 ha3.v.am) := fun z2 => z2.ok.cell (ST60.out.cell 3 2 rfl rfl) (fun h => h)
                          have g0 : ∀ z2 : WC (Gr w19), z2.val.cell? ⟨bq, oq, none⟩ = some (.int .i64 old) := fun z2 => z2.ok.cell (HQ.out 0 _ rfl) (fun h => h)
                          have g1 : ∀ z2 : WC (Gr w19), z2.val.cell? ⟨bq, oq + 1, none⟩ = some (.int .i64 6) := fun z2 => z2.ok.cell (HQ.out 1 _ rfl) (fun h => h)
                          refine wp_region_plan [16, 26, 30] (Plan.seq [0, 1, 2, 3, 4, 5, 6, 7, 8, 9, 10, 11, 12, 13, 14, 15, 16, 17, 18, 19, 20, 21, 22, 23, 24, 25, 26, 27, 28, 29, 30] .done) (fun w' => ∃ z' : WC (Gr w19), w' = z'.val) (by kernel_rfl) (by kernel_rfl) (fun c a w d v h => by cases d <;> exact h) (fun c a w d v h => by cases d <;> exact h) ⟨⟨w19.drew, (Fr.refl _ _).drew⟩, rfl⟩ ?_
                          simp only [Plan.seq, List.foldr]
                          refine wpV_q (by simp only [List.getElem?_toArray, List.getElem?_cons_zero] <;> rfl) (by rfl) (by rfl) ?_
                          go_big_quiet_step (fail)
                          refine wpQuiet_nil ?_
                          repeat (refine wpV_q (by simp only [List.getElem?_toArray, List.getElem?_cons_succ, List.getElem?_cons_zero] <;> rfl) (by rfl) (by rfl) ?_; go_big_quiet_step (fail); refine wpQuiet_nil ?_)
                          refine wpV_e (by simp only [List.getElem?_toArray, List.getElem?_cons_succ, List.getElem?_cons_zero] <;> rfl) (by rfl) ?_
                          go_wp2_with fail
                          refine (CHA.out _ (show Gr w19 w19.drew from (Fr.refl _ _).drew)).mono ?_
                          rintro e w20 ⟨rfl, f2⟩
                          have Fw20 : Gr w19 w20 := Gr.trans (show Gr w19 w19.drew from (Fr.refl _ _).drew) f2
                          go_wp2_with fail
                          refine ⟨⟨⟨w20, Fw20⟩, rfl⟩, ?_⟩
                          repeat (refine wpV_q (by simp only [List.getElem?_toArray, List.getElem?_cons_succ, List.getElem?_cons_zero] <;> rfl) (by rfl) (by rfl) ?_; go_big_quiet_step (fail); refine wpQuiet_nil ?_)
                          refine wpV_e (by simp only [List.getElem?_toArray, List.getElem?_cons_succ, List.getElem?_cons_zero] <;> rfl) (by rfl) ?_
                          go_wp2_with fail
                          refine (CH3.out _ Fw20).mono ?_
                          rintro e w21 ⟨rfl, f3⟩
                          have Fw21 : Gr w19 w21 := Gr.trans Fw20 f3
                          go_wp2_with fail
                          refine ⟨⟨⟨w21, Fw21⟩, rfl⟩, ?_⟩
                          repeat (refine wpV_q (by simp only [List.getElem?_toArray, List.getElem?_cons_succ, List.getElem?_cons_zero] <;> rfl) (by rfl) (by rfl) ?_; go_big_quiet_step (fail); refine wpQuiet_nil ?_)
                          refine wpV_e (by simp only [List.getElem?_toArray, List.getElem?_cons_succ, List.getElem?_cons_zero] <;> rfl) (by rfl) ?_
                          go_wp2_with fail
                          refine ⟨⟨⟨w21, Fw21⟩, rfl⟩, ?_⟩
                          clear f2 f3 Fw20
                          refine wpV_done ?_
                          have FZ := Lib.hid Fw21
                          clear this u0 u1 a1 a2 g0 g1
                          go_wp2_with fail
                          go_ret
                          exact ⟨rfl, GE.out _ FZ.out⟩
                        · have hq1 : ((o3.length : Int) == 0) = true := by rw [show o3.length = 0 by have := HO3.out.2.1; omega]; rfl
                          clear hl1
                          go_upto_region 30 with fail
                          haveI : Nonempty (WC (Gr w19)) := ⟨⟨w19, Fr.refl _ _⟩⟩
                          refine wp_region_plan [16, 26, 30] (Plan.seq [0, 1, 2, 3, 4, 5, 6, 7, 8, 9, 10, 11, 12, 13, 14, 15, 16, 17, 18, 19, 20, 21, 22, 23, 24, 25, 26, 27, 28, 29, 30] .done) (fun w' => ∃ z' : WC (Gr w19), w' = z'.val) (by kernel_rfl) (by kernel_rfl) (fun c a w d v h => by cases d <;> exact h) (fun c a w d v h => by cases d <;> exact h) ⟨⟨w19.drew, (Fr.refl _ _).drew⟩, rfl⟩ ?_
                          simp only [Plan.seq, List.foldr]
                          refine wpV_q (by simp only [List.getElem?_toArray, List.getElem?_cons_zero] <;> rfl) (by rfl) (by rfl) ?_
                          go_big_quiet_step (fail)
                          refine wpQuiet_nil ?_
                          repeat (refine wpV_q (by simp only [List.getElem?_toArray, List.getElem?_cons_succ, List.getElem?_cons_zero] <;> rfl) (by rfl) (by rfl) ?_; go_big_quiet_step (fail); refine wpQuiet_nil ?_)
                          refine wpV_e (by simp only [List.getElem?_toArray, List.getElem?_cons_succ, List.getElem?_cons_zero] <;> rfl) (by rfl) ?_
                          go_wp2_with fail
                          refine ⟨⟨⟨w19.drew, (Fr.refl _ _).drew⟩, rfl⟩, ?_⟩
                          repeat (refine wpV_q (by simp only [List.getElem?_toArray, List.getElem?_cons_succ, List.getElem?_cons_zero] <;> rfl) (by rfl) (by rfl) ?_; go_big_quiet_step (fail); refine wpQuiet_nil ?_)
                          refine wpV_e (by simp only [List.getElem?_toArray, List.getElem?_cons_succ, List.getElem?_cons_zero] <;> rfl) (by rfl) ?_
                          go_wp2_with fail
                          refine ⟨⟨⟨w19.drew, (Fr.refl _ _).drew⟩, rfl⟩, ?_⟩
                          repeat (refine wpV_q (by simp only [List.getElem?_toArray, List.getElem?_cons_succ, List.getElem?_cons_zero] <;> rfl) (by rfl) (by rfl) ?_; go_big_quiet_step (fail); refine wpQuiet_nil ?_)
                          refine wpV_e (by simp only [List.getElem?_toArray, List.getElem?_cons_succ, List.getElem?_cons_zero] <;> rfl) (by rfl) ?_
                          go_wp2_with fail
                          refine ⟨⟨⟨w19.drew, (Fr.refl _ _).drew⟩, rfl⟩, ?_⟩
                          refine wpV_done ?_
                          have FZ := Lib.hid (show Gr w19 w19.drew from (Fr.refl _ _).drew)
                          clear this 
                          go_wp2_with fail
                          go_ret
                          exact ⟨rfl, GE.out _ FZ.out⟩
                    · obtain rfl : kd = 5 := by rw [HKD.out, if_neg hcc]
                      have HS1 : Hid (has hb2.v.act 1 = false) := Lib.hid (by rw [HS.out]; exact decide_eq_false hcc)
                      clear HKD HS hcc
                      obtain ⟨hNe, hN2⟩ := shake_no PA.out d2
                      have CPN := Lib.hid (fun O w (h1 : Sta w O dp d2 [] [] (hrows ⟨ha.v, [2]⟩ xa1 []) w) => handOnNo_any ⟨ha.v, [2]⟩ xa1 2 dp d2 O w h1 HK.out.good)
                      rw [hNe] at CPN
                      simp only at CPN
                      have HN2' := Lib.hid hN2
                      clear hNe hN2
                      have z1 : w13.cell? ⟨z, 1, none⟩ = some (.int .i64 5) := ST28.out.cell 0 1 rfl rfl
                      go_upto_region 25 with fail
                      clear z1
                      refine wp_region_lit ?_
                      refine wpList_load_mid (by rfl) 112 _ (by rfl) q7 0 (by rfl) (Array.toList (Hd.arr (⟨ha.v, [2]⟩ : Hd) xa1)) _ (blk_range (ST28.out.blkAt 3 rfl)) Try.underlying112 rfl Try.infoHand ?_
                      go_wp2_with fail
                      refine (CPN.out _ _ (ST28.out.enter (hrows (⟨ha.v, [2]⟩ : Hd) xa1 []) (inC (at_ 5 rfl) (inC (at_ 6 rfl) (inC (at_ 7 rfl) inN))))).mono ?_
                      intro e w14 hst
                      obtain ⟨xa3, ov, rfl, hst2, -⟩ := hst
                      have ST29 := Lib.hid (show Sta Wb (fun _ => True) dp d2 [⟨z, Ho.arr ⟨1, 5, hgg⟩, 91⟩, ⟨u13, #[.slice xa.x.aa ha.v.act.length xa.x.ac, .int .i64 ha.v.am], 27⟩, ⟨q8, hb2.arr xb2, 112⟩, ⟨q7, Hd.arr (⟨ha.v, [2]⟩ : Hd) xa1, 112⟩] [⟨91, 8, ov, 0, houts []⟩] (hrows (⟨ha.v, []⟩ : Hd) xa3 (⟨some ⟨br, ro, none⟩, o2.length, pc, houts o2⟩ :: hrows hb2 xb2 (⟨some ⟨bo, oo, none⟩, 1, oc, houts [⟨2, 3, high⟩]⟩ :: hrows (⟨ha.v, [2]⟩ : Hd) xa1 (hrows ha xa (hrows hb xb []))))) w14 from ST28.out.leave (inC (at_ 5 rfl) (inC (at_ 6 rfl) (inC (at_ 7 rfl) inN))) hst2)
                      clear hst2 ST28
                      clear CPN
                      obtain ⟨qa, qc, rfl, hst⟩ := ST29.out.asRow 0 rfl
                      have ST30 := Lib.hid (show Sta Wb (fun _ => True) dp d2 [⟨z, Ho.arr ⟨1, 5, hgg⟩, 91⟩, ⟨u13, #[.slice xa.x.aa ha.v.act.length xa.x.ac, .int .i64 ha.v.am], 27⟩, ⟨q8, hb2.arr xb2, 112⟩, ⟨q7, Hd.arr (⟨ha.v, [2]⟩ : Hd) xa1, 112⟩] [] (⟨qa, 0, qc, houts []⟩ :: hrows (⟨ha.v, []⟩ : Hd) xa3 (⟨some ⟨br, ro, none⟩, o2.length, pc, houts o2⟩ :: hrows hb2 xb2 (⟨some ⟨bo, oo, none⟩, 1, oc, houts [⟨2, 3, high⟩]⟩ :: hrows (⟨ha.v, [2]⟩ : Hd) xa1 (hrows ha xa (hrows hb xb []))))) w14 from hst)
                      clear hst ST29
                      go_wp2_with (refine wpList_storeW (vs := Hd.arr (⟨ha.v, []⟩ : Hd) xa3) (ST30.out.blkAt 3 rfl) (by rfl) 112 _ _ (by rfl) (by rfl) (by rfl) rfl Try.infoHand (by rw [← Array.all_toList]; rfl) ?_)
                      intro w15 f_ b_
                      have ST31 := Lib.hid (show Sta Wb (fun _ => True) dp d2 [⟨z, Ho.arr ⟨1, 5, hgg⟩, 91⟩, ⟨u13, #[.slice xa.x.aa ha.v.act.length xa.x.ac, .int .i64 ha.v.am], 27⟩, ⟨q8, hb2.arr xb2, 112⟩, ⟨q7, Hd.arr (⟨ha.v, []⟩ : Hd) xa3, 112⟩] [] (⟨qa, 0, qc, houts []⟩ :: hrows (⟨ha.v, []⟩ : Hd) xa3 (⟨some ⟨br, ro, none⟩, o2.length, pc, houts o2⟩ :: hrows hb2 xb2 (⟨some ⟨bo, oo, none⟩, 1, oc, houts [⟨2, 3, high⟩]⟩ :: hrows (⟨ha.v, [2]⟩ : Hd) xa1 (hrows ha xa (hrows hb xb []))))) w15 from ST30.out.store 3 rfl f_ b_)
                      clear ST30 f_ b_
                      have CH2 := Lib.hid (fun w (h1 : SlA w xa3.x.aa ha.v.act.length xa3.x.ac (ints ha.v.act)) => setHas_any xa3.x.aa xa3.x.ac ha.v.act ha.v.am 2 w h1 PA.out.hi.good.v.act)
                      rw [HN2'.out] at CH2
                      have CH1 := Lib.hid (fun w (h1 : SlA w xb2.x.aa hb2.v.act.length xb2.x.ac (ints hb2.v.act)) => setHas_any xb2.x.aa xb2.x.ac hb2.v.act hb2.v.am 1 w h1 HGD.out.v.act)
                      rw [HS1.out] at CH1
                      have CLn := Lib.hid (fun w => setLen_any xa3.ka 0 xa3.kc 64 w)
                      have m11 := (ST31.out.rowAt 1 rfl).le
                      have m12 := (ST31.out.rowAt 1 rfl).max
                      have m13 := (ST31.out.rowAt 3 rfl).le
                      have m14 := (ST31.out.rowAt 3 rfl).max
                      have m15 := (ST31.out.rowAt 5 rfl).le
                      have m16 := (ST31.out.rowAt 5 rfl).max
                      have m17 := (ST31.out.rowAt 0 rfl).le
                      have m18 := (ST31.out.rowAt 0 rfl).max
                      have a1 : w15.cell? ⟨q7, 1, none⟩ = some (.slice xa3.x.aa ha.v.act.length xa3.x.ac) := ST31.out.cell 3 1 rfl rfl
                      have a2 : w15.cell? ⟨q7, 2, none⟩ = some (.int .i64 ha.v.am) := ST31.out.cell 3 2 rfl rfl
                      go_upto_region 26 with fail
                      go_wp2_with fail
                      refine (CH2.out _ (ST31.out.rowAt 1 rfl)).mono ?_
                      rintro e w16 ⟨rfl, f_⟩
                      clear a1 a2
                      have ST32 := Lib.hid (show Sta Wb (fun _ => True) dp d2 [⟨z, Ho.arr ⟨1, 5, hgg⟩, 91⟩, ⟨u13, #[.slice xa.x.aa ha.v.act.length xa.x.ac, .int .i64 ha.v.am], 27⟩, ⟨q8, hb2.arr xb2, 112⟩, ⟨q7, Hd.arr (⟨ha.v, []⟩ : Hd) xa3, 112⟩] [] (⟨qa, 0, qc, houts []⟩ :: hrows (⟨ha.v, []⟩ : Hd) xa3 (⟨some ⟨br, ro, none⟩, o2.length, pc, houts o2⟩ :: hrows hb2 xb2 (⟨some ⟨bo, oo, none⟩, 1, oc, houts [⟨2, 3, high⟩]⟩ :: hrows (⟨ha.v, [2]⟩ : Hd) xa1 (hrows ha xa (hrows hb xb []))))) w16 from ST31.out.gr f_)
                      clear ST31 f_
                      have b1 : w16.cell? ⟨q8, 1, none⟩ = some (.slice xb2.x.aa hb2.v.act.length xb2.x.ac) := ST32.out.cell 2 1 rfl rfl
                      have b2 : w16.cell? ⟨q8, 2, none⟩ = some (.int .i64 hb2.v.am) := ST32.out.cell 2 2 rfl rfl
                      go_wp2_with fail
                      refine (CH1.out _ (ST32.out.rowAt 5 rfl)).mono ?_
                      rintro e w17 ⟨rfl, f_⟩
                      clear b1 b2
                      have ST33 := Lib.hid (show Sta Wb (fun _ => True) dp d2 [⟨z, Ho.arr ⟨1, 5, hgg⟩, 91⟩, ⟨u13, #[.slice xa.x.aa ha.v.act.length xa.x.ac, .int .i64 ha.v.am], 27⟩, ⟨q8, hb2.arr xb2, 112⟩, ⟨q7, Hd.arr (⟨ha.v, []⟩ : Hd) xa3, 112⟩] [] (⟨qa, 0, qc, houts []⟩ :: hrows (⟨ha.v, []⟩ : Hd) xa3 (⟨some ⟨br, ro, none⟩, o2.length, pc, houts o2⟩ :: hrows hb2 xb2 (⟨some ⟨bo, oo, none⟩, 1, oc, houts [⟨2, 3, high⟩]⟩ :: hrows (⟨ha.v, [2]⟩ : Hd) xa1 (hrows ha xa (hrows hb xb []))))) w17 from ST32.out.gr f_)
                      clear ST32 f_
                      have a5 : w17.cell? ⟨q7, 5, none⟩ = some (.slice xa3.ka 0 xa3.kc) := ST33.out.cell 3 5 rfl rfl
                      have a6 : w17.cell? ⟨q7, 6, none⟩ = some (.int .i64 64) := ST33.out.cell 3 6 rfl rfl
                      go_wp2_with fail
                      refine (CLn.out _).mono ?_
                      rintro e w18 ⟨rfl, f_⟩
                      clear a5 a6
                      have ST34 := Lib.hid (show Sta Wb (fun _ => True) dp d2 [⟨z, Ho.arr ⟨1, 5, hgg⟩, 91⟩, ⟨u13, #[.slice xa.x.aa ha.v.act.length xa.x.ac, .int .i64 ha.v.am], 27⟩, ⟨q8, hb2.arr xb2, 112⟩, ⟨q7, Hd.arr (⟨ha.v, []⟩ : Hd) xa3, 112⟩] [] (⟨qa, 0, qc, houts []⟩ :: hrows (⟨ha.v, []⟩ : Hd) xa3 (⟨some ⟨br, ro, none⟩, o2.length, pc, houts o2⟩ :: hrows hb2 xb2 (⟨some ⟨bo, oo, none⟩, 1, oc, houts [⟨2, 3, high⟩]⟩ :: hrows (⟨ha.v, [2]⟩ : Hd) xa1 (hrows ha xa (hrows hb xb []))))) w18 from ST33.out.gr f_)
                      clear ST33 f_
                      go_wp2_with fail
                      go_ret
                      exact ⟨rfl, Fr.trans FB.out ST34.out.fr (fun k hk => .inr (HPW2.out k hk))⟩
end Go.Proofs.Ytdpnkikaciigoaa
