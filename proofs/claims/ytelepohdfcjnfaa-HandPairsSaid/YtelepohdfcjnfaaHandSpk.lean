/-
  Layer 11: speaks (printed by gen_handspk.py).
-/
import Derived.Test.YtelepohdfcjnfaaHandFn
namespace Go.Proofs.Ytelepohdfcjnfaa
open Go.RowKit Go.Proofs

theorem hk_ask : hAsk (hNew 1 2 2) 2 true = (⟨⟨1, [], 2, [], 2⟩, [2]⟩, [⟨2, 3, true⟩]) := by rfl
theorem hk_yes : hOnYes ⟨⟨1, [], 2, [], 2⟩, [2]⟩ 2 [] = (⟨⟨1, [2], 2, [], 2⟩, []⟩, [], []) := by rfl

set_option maxHeartbeats 4000000 in
set_option maxRecDepth 100000 in
theorem speaks11_any (W : World) : Calls Try.prog 8 #[] W fun e w' => e = .returned (.bool true) ∧ Gr W w' := by
  obtain ⟨ih, hh1, hh2, hh3⟩ := info_pair Try.zeroHand
  have ST1 := Lib.hid (show Sta W (fun _ => True) (.pointer none) [] [] [] (hrows (hNew 1 2 2) hdNone []) W from Sta.initR (by
    intro r hr
    rcases List.mem_cons.1 hr with rfl | hr
    · exact SlA.nil W
    · rcases List.mem_cons.1 hr with rfl | hr
      · exact SlA.nil W
      · rcases List.mem_cons.1 hr with rfl | hr
        · exact SlA.nil W
        · cases hr))
  have CN := Lib.hid (fun w => handNew_any 1 2 2 w)
  have CA := Lib.hid (fun O w (h1 : Sta w O (.pointer none) [] [] [] (hrows (hNew 1 2 2) hdNone []) w) => handAsk_any (hNew 1 2 2) hdNone 2 true _ [] O w h1 (hNew_good 1 2 2))
  rw [hk_ask] at CA
  have CY := Lib.hid (fun x O w (h1 : Sta w O (.pointer none) [] [] [] (hrows ⟨⟨1, [], 2, [], 2⟩, [2]⟩ x []) w) (hg : Hd.Good ⟨⟨1, [], 2, [], 2⟩, [2]⟩) => handOnYes_any ⟨⟨1, [], 2, [], 2⟩, [2]⟩ x 2 _ [] O w h1 hg)
  rw [hk_yes] at CY
  simp only at CA CY
  go_enter Try.func8, Try.ntmps8
  go_wp2_with fail
  refine (CN.out _).mono ?_
  rintro e w1 ⟨rfl, f_⟩
  have ST2 := Lib.hid (show Sta W (fun _ => True) (.pointer none) [] [] [] (hrows (hNew 1 2 2) hdNone []) w1 from ST1.out.gr f_)
  clear ST1 f_
  clear CN
  go_wp2_with fail
  refine (CA.out _ _ (ST2.out.enter (hrows (hNew 1 2 2) hdNone []) (inC (at_ 0 rfl) (inC (at_ 1 rfl) (inC (at_ 2 rfl) inN))))).mono ?_
  intro e w2 hst
  obtain ⟨x1, ov, rfl, hst2, hg2⟩ := hst
  have ST3 := Lib.hid (show Sta W (fun _ => True) (.pointer none) [] [] [⟨55, 8, ov, 1, houts [⟨2, 3, true⟩]⟩] (hrows ⟨⟨1, [], 2, [], 2⟩, [2]⟩ x1 (hrows (hNew 1 2 2) hdNone [])) w2 from ST2.out.leave (inC (at_ 0 rfl) (inC (at_ 1 rfl) (inC (at_ 2 rfl) inN))) hst2)
  have HG3 := Lib.hid hg2
  clear hst2 hg2 ST2
  obtain ⟨a1, c1, rfl, hst⟩ := ST3.out.asRow 0 rfl
  have ST4 := Lib.hid (show Sta W (fun _ => True) (.pointer none) [] [] [] (⟨a1, 1, c1, houts [⟨2, 3, true⟩]⟩ :: hrows ⟨⟨1, [], 2, [], 2⟩, [2]⟩ x1 (hrows (hNew 1 2 2) hdNone [])) w2 from hst)
  clear hst ST3
  have e1 := (ST4.out.rowAt 0 rfl).le
  have e2 := (ST4.out.rowAt 0 rfl).max
  go_wp2_with (refine wpList_fresh (vs := Hd.arr ⟨⟨1, [], 2, [], 2⟩, [2]⟩ x1) hh1 hh2 Try.infoHand (by rfl) (by rw [← Array.all_toList]; rfl) (by rfl) (by rfl) ?_)
  intro w3 f_ b_ l_
  obtain ⟨q, hb_⟩ : ∃ b, b = w2.heap.size := ⟨_, rfl⟩
  rw [← hb_] at b_ l_ ⊢
  have ST5 := Lib.hid (show Sta W (fun _ => True) (.pointer none) [] [⟨q, Hd.arr ⟨⟨1, [], 2, [], 2⟩, [2]⟩ x1, 31⟩] [] (⟨a1, 1, c1, houts [⟨2, 3, true⟩]⟩ :: hrows ⟨⟨1, [], 2, [], 2⟩, [2]⟩ x1 (hrows (hNew 1 2 2) hdNone [])) w3 from ST4.out.var f_ b_ (Nat.le_of_eq hb_.symm))
  clear ST4 f_ b_ l_ hb_
  obtain ⟨b, o, rfl, hc⟩ := SlA.elem (f := Ho.cells) (n := 8) (fun _ => rfl) (by decide) (l := [⟨2, 3, true⟩]) (ST5.out.rowAt 0 rfl) 0 (by decide)
  have g0 := hc 0 _ rfl
  have g1 := hc 1 _ rfl
  simp only [Nat.zero_mul, Nat.add_zero, List.getElem_cons_zero] at g0 g1
  clear hc
  go_upto_region 4 with fail
  refine wp_region_lit ?_
  refine wpList_load_mid (by rfl) 31 _ (by rfl) q 0 (by rfl) (Array.toList (Hd.arr ⟨⟨1, [], 2, [], 2⟩, [2]⟩ x1)) _ (blk_range (ST5.out.blkAt 0 rfl)) Try.underlying31 rfl Try.infoHand ?_
  go_wp2_with fail
  refine (CY.out _ _ _ (ST5.out.enter (hrows ⟨⟨1, [], 2, [], 2⟩, [2]⟩ x1 []) (inC (at_ 1 rfl) (inC (at_ 2 rfl) (inC (at_ 3 rfl) inN)))) HG3.out).mono ?_
  intro e w4 hst
  obtain ⟨x2, ow, rfl, hst2, hg2⟩ := hst
  have ST6 := Lib.hid (show Sta W (fun _ => True) (.pointer none) [] [⟨q, Hd.arr ⟨⟨1, [], 2, [], 2⟩, [2]⟩ x1, 31⟩] [⟨55, 8, ow, 0, houts []⟩] (hrows ⟨⟨1, [2], 2, [], 2⟩, []⟩ x2 (⟨some ⟨b, o, none⟩, 1, c1, houts [⟨2, 3, true⟩]⟩ :: hrows ⟨⟨1, [], 2, [], 2⟩, [2]⟩ x1 (hrows (hNew 1 2 2) hdNone []))) w4 from ST5.out.leave (inC (at_ 1 rfl) (inC (at_ 2 rfl) (inC (at_ 3 rfl) inN))) hst2)
  have HG6 := Lib.hid hg2
  clear hst2 hg2 ST5
  obtain ⟨a2, c2, rfl, hst⟩ := ST6.out.asRow 0 rfl
  have ST7 := Lib.hid (show Sta W (fun _ => True) (.pointer none) [] [⟨q, Hd.arr ⟨⟨1, [], 2, [], 2⟩, [2]⟩ x1, 31⟩] [] (⟨a2, 0, c2, houts []⟩ :: hrows ⟨⟨1, [2], 2, [], 2⟩, []⟩ x2 (⟨some ⟨b, o, none⟩, 1, c1, houts [⟨2, 3, true⟩]⟩ :: hrows ⟨⟨1, [], 2, [], 2⟩, [2]⟩ x1 (hrows (hNew 1 2 2) hdNone []))) w4 from hst)
  clear hst ST6
  have e3 := (ST7.out.rowAt 0 rfl).le
  have e4 := (ST7.out.rowAt 0 rfl).max
  clear g0 g1
  go_wp2_with (refine wpList_storeW (vs := Hd.arr ⟨⟨1, [2], 2, [], 2⟩, []⟩ x2) (ST7.out.blkAt 0 rfl) (by rfl) 31 _ _ (by rfl) (by rfl) (by rfl) rfl Try.infoHand (by rw [← Array.all_toList]; rfl) ?_)
  intro w5 f_ b_
  have ST8 := Lib.hid (show Sta W (fun _ => True) (.pointer none) [] [⟨q, Hd.arr ⟨⟨1, [2], 2, [], 2⟩, []⟩ x2, 31⟩] [] (⟨a2, 0, c2, houts []⟩ :: hrows ⟨⟨1, [2], 2, [], 2⟩, []⟩ x2 (⟨some ⟨b, o, none⟩, 1, c1, houts [⟨2, 3, true⟩]⟩ :: hrows ⟨⟨1, [], 2, [], 2⟩, [2]⟩ x1 (hrows (hNew 1 2 2) hdNone []))) w5 from ST7.out.store 0 rfl f_ b_)
  clear ST7 f_ b_
  have CH := Lib.hid (setHas_any x2.x.aa x2.x.ac [2] 2 2 w5 (ST8.out.rowAt 1 rfl) HG6.out.v.act)
  rw [show has [2] 2 = true from rfl] at CH
  have y1 : w5.cell? ⟨q, 1, none⟩ = some (.slice x2.x.aa 1 x2.x.ac) := ST8.out.cell 0 1 rfl rfl
  have y2 : w5.cell? ⟨q, 2, none⟩ = some (.int .i64 2) := ST8.out.cell 0 2 rfl rfl
  have l1 := (ST8.out.rowAt 1 rfl).le
  have l2 := (ST8.out.rowAt 1 rfl).max
  have l3 := (ST8.out.rowAt 3 rfl).le
  have l4 := (ST8.out.rowAt 3 rfl).max
  simp only [List.length_cons, List.length_nil] at l1 l3
  go_wp2_with fail
  refine CH.out.mono ?_
  rintro e w6 ⟨rfl, f_⟩
  have ST9 := Lib.hid (show Sta W (fun _ => True) (.pointer none) [] [⟨q, Hd.arr ⟨⟨1, [2], 2, [], 2⟩, []⟩ x2, 31⟩] [] (⟨a2, 0, c2, houts []⟩ :: hrows ⟨⟨1, [2], 2, [], 2⟩, []⟩ x2 (⟨some ⟨b, o, none⟩, 1, c1, houts [⟨2, 3, true⟩]⟩ :: hrows ⟨⟨1, [], 2, [], 2⟩, [2]⟩ x1 (hrows (hNew 1 2 2) hdNone []))) w6 from ST8.out.gr f_)
  clear ST8 f_
  clear y1 y2
  have y5 : w6.cell? ⟨q, 5, none⟩ = some (.slice x2.ka 0 x2.kc) := ST9.out.cell 0 5 rfl rfl
  have y6 : w6.cell? ⟨q, 6, none⟩ = some (.int .i64 64) := ST9.out.cell 0 6 rfl rfl
  have CLn := Lib.hid (setLen_any x2.ka 0 x2.kc 64 w6)
  go_wp2_with fail
  refine CLn.out.mono ?_
  rintro e w7 ⟨rfl, f_⟩
  clear y5 y6
  have ST10 := Lib.hid (show Sta W (fun _ => True) (.pointer none) [] [⟨q, Hd.arr ⟨⟨1, [2], 2, [], 2⟩, []⟩ x2, 31⟩] [] (⟨a2, 0, c2, houts []⟩ :: hrows ⟨⟨1, [2], 2, [], 2⟩, []⟩ x2 (⟨some ⟨b, o, none⟩, 1, c1, houts [⟨2, 3, true⟩]⟩ :: hrows ⟨⟨1, [], 2, [], 2⟩, [2]⟩ x1 (hrows (hNew 1 2 2) hdNone []))) w7 from ST9.out.gr f_)
  clear ST9 f_
  go_wp2_with fail
  go_ret
  exact ⟨rfl, ST10.out.fr.mono (fun k _ h => absurd h (pn_no k))⟩
end Go.Proofs.Ytelepohdfcjnfaa
