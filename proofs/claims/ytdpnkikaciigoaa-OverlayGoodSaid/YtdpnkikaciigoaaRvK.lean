/-
  The document's view: Know (printed by gen_rv.py).
-/
import Derived.Test.YtdpnkikaciigoaaRvJ
namespace Go.Proofs.Ytdpnkikaciigoaa
open Go.RowKit Go.Proofs

set_option maxHeartbeats 4000000 in
set_option maxRecDepth 100000 in
theorem refKnow_any (u : Vw) (y : VwP) (n : Int) (ds : List Int) (da : Option Addr) (dc : Nat) (W : World) (h : RwAt W u y ds da dc) (hlp : u.pas.length ≤ 100) (hpm : 0 ≤ u.pm) (hr : ∀ x ∈ ds, 0 ≤ x ∧ x < 4294967296) :
    Calls Try.prog 29 #[.agg (rwArr u y ds da dc), .int .i64 n] W (RwEnd u y da (rKnow u n ds).1 (rKnow u n ds).2 (fun l => .agg l) W) := by
  obtain ⟨i0, hi, hz0, hz1, hz2⟩ := info_parts Try.infoint
  obtain ⟨ir, hr1, hr2, hr3⟩ := info_pair Try.zeroRefView
  obtain ⟨w1, hw1⟩ : ∃ w1, w1 = (W.alloc (.cells (rwArr u y ds da dc) 51)).alloc (.cells rwZ 51) := ⟨_, rfl⟩
  have f1 : Gr W w1 := by rw [hw1]; exact ((Fr.refl _ _).alloc _).alloc _
  have V1 := Lib.hid (show w1.heap[W.heap.size]? = some (.cells (rwArr u y ds da dc) 51 (0, 0)) by rw [hw1, heap_alloc_if, if_neg (by simp), heap_alloc_if, if_pos rfl])
  have R1 := Lib.hid (show w1.heap[W.heap.size + 1]? = some (.cells rwZ 51 (0, 0)) by rw [hw1, heap_alloc_if, if_pos (by simp)])
  have s1 : W.heap.size + 1 < w1.heap.size := by rw [hw1]; simp
  have F1 := Lib.hid f1
  have HW1 := Lib.hid hw1
  have H1 := Lib.hid (h.gr f1)
  have e1 := h.act.le
  have e2 := h.act.max
  have e3 := h.pas.le
  have e4 := h.pas.max
  have e5 := h.dr.le
  have e6 := h.dr.max
  obtain ⟨S, hS⟩ : ∃ S : Nat → Prop, S = fun k => k = W.heap.size ∨ k = W.heap.size + 1 := ⟨_, rfl⟩
  have AP := Lib.hid (show VwApart S u y from h.new (fun k hk => by rw [hS] at hk; omega))
  have HS := Lib.hid (show S W.heap.size ∧ S (W.heap.size + 1) ∧ ∀ k, S k → k < w1.heap.size by rw [hS]; exact ⟨.inl rfl, .inr rfl, fun k hk => by omega⟩)
  clear hw1 f1 h hS
  have CA := Lib.hid (refHas_any y.aa y.ac u.act n w1 H1.out.act)
  have CP := Lib.hid (refHas_any y.pa y.pc u.pas n w1 H1.out.pas)
  obtain ⟨cb, hcb⟩ : ∃ cb, cb = rKnowNo u n := ⟨_, rfl⟩
  obtain ⟨kk, hkk⟩ : ∃ kk, kk = rKnow u n ds := ⟨_, rfl⟩
  unfold RwEnd
  rw [← hkk]
  unfold rKnow at hkk
  rw [← hcb] at hkk
  have hpz : cb = false → u.pm ≠ 0 := by
    intro e hz
    rw [e] at hcb
    unfold rKnowNo at hcb
    rw [hz] at hcb
    simp at hcb
  unfold rKnowNo at hcb
  obtain ⟨ba, hba⟩ : ∃ b, b = has u.act n := ⟨_, rfl⟩
  obtain ⟨bp, hbp⟩ : ∃ b, b = has u.pas n := ⟨_, rfl⟩
  rw [← hba] at CA hcb
  rw [← hbp] at CP hcb
  have HKK := Lib.hid hkk
  have HPZ := Lib.hid hpz
  have HRG := Lib.hid hr
  have y0 := (Bx.of_block V1.out) 0 _ rfl
  have y1 := (Bx.of_block V1.out) 1 _ rfl
  have y2 := (Bx.of_block V1.out) 2 _ rfl
  have y4 := (Bx.of_block V1.out) 4 _ rfl
  obtain ⟨sv, hsv⟩ : ∃ s, s = u.self := ⟨_, rfl⟩
  obtain ⟨pv, hpv⟩ : ∃ s, s = u.pm := ⟨_, rfl⟩
  rw [← hsv] at y0 hcb
  rw [← hpv] at y4 hcb
  have HCB := Lib.hid hcb
  clear hsv hpv hkk hcb hba hbp hpz hr
  go_enter Try.func29, Try.ntmps29
  go_upto_region 1 with fail
  rw [← HW1.out]
  clear HW1
  go_cut [35] from 7 to 35 (fun c wx => c = .bool cb ∧ wx = w1)
  case first =>
    by_cases h1 : n < 1
    · have hd := Lib.hid (show cb = true by rw [HCB.out, decide_eq_true h1]; rfl)
      go_wp2_with fail
      go_meet
      exact ⟨by rw [hd.out], rfl⟩
    · by_cases h2 : 65535 < n
      · have hd := Lib.hid (show cb = true by rw [HCB.out, decide_eq_true h2]; simp)
        go_wp2_with fail
        go_meet
        exact ⟨by rw [hd.out], rfl⟩
      · cases hb3 : (n == sv)
        case true =>
          have hd := Lib.hid (show cb = true by rw [HCB.out, hb3]; simp)
          have hn : sv = n := by simpa using (beq_iff_eq.1 hb3).symm
          subst hn
          clear HCB
          go_wp2_with fail
          go_meet
          exact ⟨by rw [hd.out], rfl⟩
        case false =>
          cases hb4 : (pv == 0)
          case true =>
            have hd := Lib.hid (show cb = true by rw [HCB.out, hb4]; simp)
            have hn : pv = 0 := beq_iff_eq.1 hb4
            subst hn
            clear HCB
            go_wp2_with fail
            go_meet
            exact ⟨by rw [hd.out], rfl⟩
          case false =>
            have hcb2 : Hid (cb = (ba || bp)) := Lib.hid (by rw [HCB.out, decide_eq_false h1, decide_eq_false h2, hb3, hb4]; simp)
            clear HCB
            go_wp2_with fail
            refine CA.out.mono ?_
            rintro e w2 ⟨rfl, rfl⟩
            cases ba
            case true =>
              have hd := Lib.hid (show cb = true by rw [hcb2.out]; rfl)
              go_wp2_with fail
              go_meet
              exact ⟨by rw [hd.out], rfl⟩
            case false =>
              have hd := Lib.hid (show cb = bp by rw [hcb2.out]; rfl)
              go_wp2_with fail
              refine CP.out.mono ?_
              rintro e w2 ⟨rfl, rfl⟩
              go_wp2_with fail
              go_meet
              exact ⟨by rw [hd.out], rfl⟩
  case rest =>
    obtain ⟨rfl, rfl⟩ := hcut
    clear HCB CA CP y0 y1 y2 y4
    obtain ⟨w1, hwx⟩ : ∃ x, x = wc := ⟨_, rfl⟩
    subst hwx
    cases cb
    case true =>
      obtain rfl : kk = (u, ds) := by have := HKK.out; simpa using this
      clear HKK HPZ
      go_upto_region 2 with fail
      refine wp_region_lit ?_
      refine wpList_load_mid (by rfl) 51 _ (by rfl) W.heap.size 0 (by rfl) (Array.toList (rwArr u y ds da dc)) _ (blk_range V1.out) Try.underlying51 rfl Try.infoRefView ?_
      go_wp2_with (refine wpList_storeW (vs := rwArr u y ds da dc) R1.out (by rfl) 51 _ _ (by rfl) (by rfl) (by rfl) rfl Try.infoRefView (by rw [← Array.all_toList]; rfl) ?_)
      intro w8 f8 b8
      have F8 := Lib.hid (fr_new F1.out f8 (show W.heap.size ≤ W.heap.size + 1 by omega))
      have R8 := Lib.hid b8
      have H8 := Lib.hid (H1.out.store f8 AP.out HS.out.2.1 R1.out (by first | exact noU32_z | exact noU32_arr _ _ _ _ _))
      clear f8 b8
      have L8 : Hid ((loadVar 51 ⟨W.heap.size + 1, 0, none⟩).run Try.prog w8 = .ok (.agg (rwArr u y ds da dc)) w8) := Lib.hid (run_loadVar_mid w8 (W.heap.size + 1) 0 51 (Array.toList (rwArr u y ds da dc)) _ (blk_range R8.out) Try.underlying51 rfl Try.infoRefView)
      have A8 : Hid ((asAddr (.pointer (some ⟨W.heap.size + 1, 0, none⟩))).run Try.prog w8 = .ok ⟨W.heap.size + 1, 0, none⟩ w8) := Lib.hid (by simp [go_sem])
      go_wp2_with fail
      refine bodyPost_ret (v := .agg (rwArr u y ds da dc)) (by simp [results, Try.results29, Sem.run_bind, Result.andThen_ok, L8.out, A8.out]) rfl ?_
      exact ⟨y, da, dc, rfl, H8.out, VwFrom.refl _ _ _, DaOf.refl _, F8.out⟩
    case false =>
      have hz := HPZ.out rfl
      have y2 := (Bx.of_block V1.out) 2 _ rfl
      have y4 := (Bx.of_block V1.out) 4 _ rfl
      clear HPZ
      by_cases hfull : u.pm ≤ (u.pas.length : Int)
      · have hne : u.pas ≠ [] := fun e => by rw [e] at hfull; simp at hfull; omega
        have hk := HKK.out
        rw [if_neg (by simp), if_pos hfull] at hk
        have CO := Lib.hid (refOne_any u y ds da dc y.pa y.pc u.pas w1 H1.out H1.out.pas hne hlp HRG.out)
        obtain ⟨o1, ob, od, ho⟩ : ∃ o1 ob od, oneV ds (srt u.pas) = (o1, ob, od) := ⟨_, _, _, rfl⟩
        rw [ho] at CO hk
        simp only at CO hk
        obtain ⟨l', hl'⟩ : ∃ l', l' = rDrop u.pas o1 := ⟨_, rfl⟩
        have hll : l'.length ≤ 100 := by rw [hl']; exact Nat.le_trans (rDrop_len _ _) hlp
        rw [← hl'] at hk
        have HL := Lib.hid hl'
        obtain ⟨u', ds'⟩ := kk
        injection hk with hk1 hk2
        subst hk2
        have HU := Lib.hid hk1
        clear hk1 hl' HKK ho hne hz
        go_upto_region 4 with fail
        refine wp_region_lit ?_
        refine wpList_load_mid (by rfl) 51 _ (by rfl) W.heap.size 0 (by rfl) (Array.toList (rwArr u y ds da dc)) _ (blk_range V1.out) Try.underlying51 rfl Try.infoRefView ?_
        go_wp2_with fail
        refine CO.out.mono ?_
        rintro e w2 ⟨da2, dc2, rfl, h2, hda, f2⟩
        have HDA := Lib.hid hda
        clear hda
        have V2 := Lib.hid (blk_keep f2 V1.out (fun h => h))
        have R2 := Lib.hid (blk_keep f2 R1.out (fun h => h))
        have F2 := Lib.hid (Gr.trans F1.out f2)
        have H2 := Lib.hid h2
        have hs2 := f2.size
        clear f2 h2 V1 R1 F1 H1 CO y2 y4
        go_wp2_with (refine wpList_fresh (vs := rwArr u y ds' da2 dc2) hr1 hr2 Try.infoRefView (by rfl) (by rw [← Array.all_toList]; rfl) (by rfl) (by rfl) ?_)
        intro w3 f3 bg3 lg3
        obtain ⟨g, hg⟩ : ∃ g, g = w2.heap.size := ⟨_, rfl⟩
        rw [← hg] at bg3 lg3 ⊢
        have APG := Lib.hid (show VwApart (fun k => k = g) u y from H2.out.new (fun k hk => by omega))
        have V3 := Lib.hid (blk_keep f3 V2.out (fun h => h))
        have R3 := Lib.hid (blk_keep f3 R2.out (fun h => h))
        have F3 := Lib.hid (Gr.trans F2.out f3)
        have H3 := Lib.hid (H2.out.gr f3)
        have G3 := Lib.hid bg3
        have hs3 := f3.size
        have hg1 : W.heap.size + 1 < g := by omega
        clear f3 bg3 hg V2 R2 F2 H2
        have y2 := (Bx.of_block G3.out) 2 _ rfl
        have CW := Lib.hid (refWithout_any y.pa y.pc u.pas o1 w3 H3.out.pas hlp)
        rw [← HL.out] at CW
        clear HL
        go_wp2_with fail
        refine CW.out.mono ?_
        rintro e w4 ⟨a', c', rfl, hs', hn', f4⟩
        have V4 := Lib.hid (blk_keep f4 V3.out (fun h => h))
        have R4 := Lib.hid (blk_keep f4 R3.out (fun h => h))
        have G4 := Lib.hid (blk_keep f4 G3.out (fun h => h))
        have F4 := Lib.hid (Gr.trans F3.out f4)
        have H4 := Lib.hid (show RwAt w4 ⟨u.self, u.act, u.am, l', u.pm⟩ ⟨y.aa, y.ac, a', c'⟩ ds' da2 dc2 from ⟨(H3.out.gr f4).act, hs', (H3.out.gr f4).dr⟩)
        have KG := Lib.hid (show VwFrom w3 u y ⟨u.self, u.act, u.am, l', u.pm⟩ ⟨y.aa, y.ac, a', c'⟩ from ⟨fun q h => .inl ⟨h, rfl⟩, fun q h => .inr (hn' q h)⟩)
        have KF := Lib.hid (KG.out.mono (a := w1) (by omega))
        have AP2 := Lib.hid (AP.out.next KF.out HS.out.2.2)
        have APG2 := Lib.hid (APG.out.next KG.out (fun k hk => by omega))
        have hs4 := f4.size
        have e7 := hs'.le
        have e8 := hs'.max
        clear f4 V3 R3 F3 CW y2 hs' H3 hn' G3 APG KG
        have yc := (Bx.of_block G4.out) 2 _ rfl
        have zc := Lib.frozen_of_heap G4.out 2
        go_upto_region 6 with fail
        obtain ⟨w5, hw3⟩ : ∃ w3, w3 = World.setCell w4 ⟨g, 2, none⟩ (.slice a' l'.length c') := ⟨_, rfl⟩
        rw [← hw3]
        have f3 : Fr (fun k => k = g) w4 w5 := by rw [hw3]; exact (Fr.refl (fun k => k = g) _).setCell (p := ⟨g, 2, none⟩) (.inl rfl) _
        have b3 : w5.heap[g]? = some (.cells (rwArr ⟨u.self, u.act, u.am, l', u.pm⟩ ⟨y.aa, y.ac, a', c'⟩ ds' da2 dc2) 51 (0, 0)) := by rw [hw3]; exact blk_set1 G4.out 2 _
        clear hw3 yc zc
        have V5 := Lib.hid (blk_keep f3 V4.out (by omega))
        have R5 := Lib.hid (blk_keep f3 R4.out (by omega))
        have G5 := Lib.hid b3
        have F5 := Lib.hid (fr_new F4.out f3 (by omega))
        have H5 := Lib.hid (H4.out.store f3 APG2.out rfl G4.out (noU32_arr _ _ _ _ _))
        have hs5 := f3.size
        clear f3 b3 V4 R4 F4 H4 G4 APG2
        refine wp_region_lit ?_
        refine wpList_load_mid (by rfl) 51 _ (by rfl) g 0 (by rfl) (Array.toList (rwArr ⟨u.self, u.act, u.am, l', u.pm⟩ ⟨y.aa, y.ac, a', c'⟩ ds' da2 dc2)) _ (blk_range G5.out) Try.underlying51 rfl Try.infoRefView ?_
        go_wp2_with (refine wpList_storeW (vs := rwArr ⟨u.self, u.act, u.am, l', u.pm⟩ ⟨y.aa, y.ac, a', c'⟩ ds' da2 dc2) V5.out (by rfl) 51 _ _ (by rfl) (by rfl) (by rfl) rfl Try.infoRefView (by rw [← Array.all_toList]; rfl) ?_)
        intro w6 f6 b6
        have V6 := Lib.hid b6
        have R6 := Lib.hid (blk_keep f6 R5.out (by omega))
        have F6 := Lib.hid (fr_new F5.out f6 (Nat.le_refl _))
        have H6 := Lib.hid (H5.out.store f6 AP2.out HS.out.1 V5.out (noU32_arr _ _ _ _ _))
        have hs6 := f6.size
        clear f6 b6 V5 R5 F5 H5 G5
        cases hq : a' with
        | none =>
          have hl0 : l' = [] := sla_none (by have h0 : SlA w6 a' l'.length c' (ints l') := H6.out.pas; rw [hq] at h0; exact h0)
          have yr : w6.cell? ⟨W.heap.size, 2, none⟩ = some (.slice a' l'.length c') := (Bx.of_block V6.out) 2 _ rfl
          have hltw : W.heap.size < w6.heap.size := (Array.getElem?_eq_some_iff.1 V6.out).1
          rw [hq, hl0] at yr
          simp only [List.length_nil] at yr
          go_wp2_with (at_builtin; refine wpList_append_own _ rfl _ _ 22 rfl w6.heap.size 3 i0 (.int .i64 0) 1 8 Try.underlying22 hi hz0 hz1 hz2 rfl (by decide) _ _ _ rfl ((own_empty w6 _ _ (Nat.le_refl _)).alloc _) ⟨w6.heap.size + 1, 0, none⟩ 1 1 [.int .i64 n] rfl rfl (news_two9 _ _ _ _) (one_one _ rfl) (by unfold maxLen; omega) (by omega) (by simp only [World.size_alloc]; omega) ?_)
          intro v2 w8 hown2 hgrow2 _
          have f8 : Gr w6 w8 := (((Fr.refl (fun _ => False) w6).alloc _).alloc _).grown hgrow2 (fun q hq => .inr (by simp [Value.ownBlock] at hq; omega))
          have hown3 : w8.ownsRow w6.heap.size 3 1 v2 (l' ++ [n]).length (ints (l' ++ [n])) := by rw [hl0]; simpa using hown2
          obtain ⟨nl, hnl⟩ : ∃ nl, nl = l' ++ [n] := ⟨_, rfl⟩
          rw [← hnl] at hown3
          have HNL := Lib.hid hnl
          clear hnl hl0
          obtain ⟨a9, c9, rfl, hs9', hn9, -⟩ := SlA.of_own hown3
          clear hown2 hown3 hgrow2 yr hltw
          have V8 := Lib.hid (blk_keep f8 V6.out (fun h => h))
          have R8 := Lib.hid (blk_keep f8 R6.out (fun h => h))
          have F8 := Lib.hid (Gr.trans F6.out f8)
          have HK := H6.out.gr f8
          have H8 := Lib.hid (show RwAt w8 ⟨u.self, u.act, u.am, nl, u.pm⟩ ⟨y.aa, y.ac, a9, c9⟩ ds' da2 dc2 from ⟨HK.act, hs9', HK.dr⟩)
          have hsz8 := F6.out.size
          have KF8 := Lib.hid (show VwFrom w1 u y ⟨u.self, u.act, u.am, nl, u.pm⟩ ⟨y.aa, y.ac, a9, c9⟩ from ⟨KF.out.1, fun q h => .inr (by have := (hn9 q h).1; omega)⟩)
          have AP8 := Lib.hid (AP.out.next KF8.out HS.out.2.2)
          have e11 := hs9'.le
          have e12 := hs9'.max
          clear f8 HK hs9' hn9 V6 R6 F6 H6 AP2 hsz8
          have yc := (Bx.of_block V8.out) 2 _ rfl
          have zc := Lib.frozen_of_heap V8.out 2
          go_upto_region 8 with fail
          obtain ⟨w9, hw3⟩ : ∃ w3, w3 = World.setCell w8 ⟨W.heap.size, 2, none⟩ (.slice a9 nl.length c9) := ⟨_, rfl⟩
          rw [← hw3]
          have f3 : Fr (fun k => k = W.heap.size) w8 w9 := by rw [hw3]; exact (Fr.refl (fun k => k = W.heap.size) _).setCell (p := ⟨W.heap.size, 2, none⟩) (.inl rfl) _
          have b3 : w9.heap[W.heap.size]? = some (.cells (rwArr ⟨u.self, u.act, u.am, nl, u.pm⟩ ⟨y.aa, y.ac, a9, c9⟩ ds' da2 dc2) 51 (0, 0)) := by rw [hw3]; exact blk_set1 V8.out 2 _
          clear hw3 yc zc
          have V9 := Lib.hid b3
          have R9 := Lib.hid (blk_keep f3 R8.out (by omega))
          have F9 := Lib.hid (fr_new F8.out f3 (Nat.le_refl _))
          have H9 := Lib.hid (H8.out.store f3 AP8.out HS.out.1 V8.out (noU32_arr _ _ _ _ _))
          clear f3 b3 V8 R8 F8 H8
          go_upto_region 8 with fail
          refine wp_region_lit ?_
          refine wpList_load_mid (by rfl) 51 _ (by rfl) W.heap.size 0 (by rfl) (Array.toList (rwArr ⟨u.self, u.act, u.am, nl, u.pm⟩ ⟨y.aa, y.ac, a9, c9⟩ ds' da2 dc2)) _ (blk_range V9.out) Try.underlying51 rfl Try.infoRefView ?_
          go_wp2_with (refine wpList_storeW (vs := rwArr ⟨u.self, u.act, u.am, nl, u.pm⟩ ⟨y.aa, y.ac, a9, c9⟩ ds' da2 dc2) R9.out (by rfl) 51 _ _ (by rfl) (by rfl) (by rfl) rfl Try.infoRefView (by rw [← Array.all_toList]; rfl) ?_)
          intro w10 f10 b10
          have F10 := Lib.hid (fr_new F9.out f10 (show W.heap.size ≤ W.heap.size + 1 by omega))
          have R10 := Lib.hid b10
          have H10 := Lib.hid (H9.out.store f10 AP8.out HS.out.2.1 R9.out (by first | exact noU32_z | exact noU32_arr _ _ _ _ _))
          clear f10 b10
          have L10 : Hid ((loadVar 51 ⟨W.heap.size + 1, 0, none⟩).run Try.prog w10 = .ok (.agg (rwArr ⟨u.self, u.act, u.am, nl, u.pm⟩ ⟨y.aa, y.ac, a9, c9⟩ ds' da2 dc2)) w10) := Lib.hid (run_loadVar_mid w10 (W.heap.size + 1) 0 51 (Array.toList (rwArr ⟨u.self, u.act, u.am, nl, u.pm⟩ ⟨y.aa, y.ac, a9, c9⟩ ds' da2 dc2)) _ (blk_range R10.out) Try.underlying51 rfl Try.infoRefView)
          have A10 : Hid ((asAddr (.pointer (some ⟨W.heap.size + 1, 0, none⟩))).run Try.prog w10 = .ok ⟨W.heap.size + 1, 0, none⟩ w10) := Lib.hid (by simp [go_sem])
          go_wp2_with fail
          refine bodyPost_ret (v := .agg (rwArr ⟨u.self, u.act, u.am, nl, u.pm⟩ ⟨y.aa, y.ac, a9, c9⟩ ds' da2 dc2)) (by simp [results, Try.results29, Sem.run_bind, Result.andThen_ok, L10.out, A10.out]) rfl ?_
          have hu : u' = ⟨u.self, u.act, u.am, nl, u.pm⟩ := by rw [HNL.out, HU.out]
          subst hu
          exact ⟨_, _, _, rfl, H10.out, KF8.out.mono (by omega), HDA.out, F10.out⟩
        | some ad =>
          have HR0 := Lib.hid (show SlA w6 (some ad) l'.length c' (ints l') from by have h0 : SlA w6 a' l'.length c' (ints l') := H6.out.pas; rw [hq] at h0; exact h0)
          have HNW := Lib.hid (show ∀ (j : Nat) (z : Value), (ints l')[j]? = some z → (w6.alloc (.cells #[] 3)).cell? (ad.add j) = some z from by
            intro j z hj
            obtain ⟨b', o', e, hc⟩ := HR0.out.cell j z hj
            cases e
            rw [Addr.add_lit]
            rw [World.cell?_alloc_old _ _ _ (Nat.ne_of_lt (lt_of_cell hc))]; exact hc)
          have yr : w6.cell? ⟨W.heap.size, 2, none⟩ = some (.slice a' l'.length c') := (Bx.of_block V6.out) 2 _ rfl
          have hltw : W.heap.size < w6.heap.size := (Array.getElem?_eq_some_iff.1 V6.out).1
          rw [hq] at yr
          go_wp2_with (at_builtin; refine wpList_append_own _ rfl _ _ 22 rfl w6.heap.size 3 i0 (.int .i64 0) 1 8 Try.underlying22 hi hz0 hz1 hz2 rfl (by decide) _ _ _ rfl (own_empty w6 _ _ (Nat.le_refl _)) ad l'.length c' (ints l') rfl (by simp) HNW.out (one_map _ l' (fun _ => rfl)) (by unfold maxLen; omega) (by omega) (by simp) ?_)
          intro v1 w5 hown1 hgrow1 _
          have f5 : Gr w6 w5 := ((Fr.refl (fun _ => False) w6).alloc _).grown hgrow1 (fun q hq => .inr (by simp [Value.ownBlock] at hq; omega))
          have HO1 := Lib.hid hown1
          have F5 := Lib.hid f5
          have hsz5 := f5.size
          clear hown1 hgrow1 f5 yr HR0 HNW
          go_wp2_with (at_builtin; refine wpList_append_own _ rfl _ _ 22 rfl w6.heap.size 3 i0 (.int .i64 0) 1 8 Try.underlying22 hi hz0 hz1 hz2 rfl (by decide) _ _ _ rfl (HO1.out.alloc _) ⟨w5.heap.size, 0, none⟩ 1 1 [.int .i64 n] rfl rfl (news_one _ _ _) (one_one _ rfl) (by unfold maxLen; omega) (by omega) (by rw [World.size_alloc]; omega) ?_)
          intro v2 w8 hown2 hgrow2 _
          have f8 : Gr w6 w8 := (F5.out.alloc _).grown hgrow2 (fun q hq => .inr ((HO1.out.lt q hq).1))
          have hown3 : w8.ownsRow w6.heap.size 3 1 v2 (l' ++ [n]).length (ints (l' ++ [n])) := by simpa using hown2
          obtain ⟨nl, hnl⟩ : ∃ nl, nl = l' ++ [n] := ⟨_, rfl⟩
          rw [← hnl] at hown3
          have HNL := Lib.hid hnl
          clear hnl
          obtain ⟨a9, c9, rfl, hs9', hn9, -⟩ := SlA.of_own hown3
          clear hown2 hown3 hgrow2 HO1 F5 hsz5 hltw
          have V8 := Lib.hid (blk_keep f8 V6.out (fun h => h))
          have R8 := Lib.hid (blk_keep f8 R6.out (fun h => h))
          have F8 := Lib.hid (Gr.trans F6.out f8)
          have HK := H6.out.gr f8
          have H8 := Lib.hid (show RwAt w8 ⟨u.self, u.act, u.am, nl, u.pm⟩ ⟨y.aa, y.ac, a9, c9⟩ ds' da2 dc2 from ⟨HK.act, hs9', HK.dr⟩)
          have hsz8 := F6.out.size
          have KF8 := Lib.hid (show VwFrom w1 u y ⟨u.self, u.act, u.am, nl, u.pm⟩ ⟨y.aa, y.ac, a9, c9⟩ from ⟨KF.out.1, fun q h => .inr (by have := (hn9 q h).1; omega)⟩)
          have AP8 := Lib.hid (AP.out.next KF8.out HS.out.2.2)
          have e11 := hs9'.le
          have e12 := hs9'.max
          clear f8 HK hs9' hn9 V6 R6 F6 H6 AP2 hsz8
          have yc := (Bx.of_block V8.out) 2 _ rfl
          have zc := Lib.frozen_of_heap V8.out 2
          go_upto_region 8 with fail
          obtain ⟨w9, hw3⟩ : ∃ w3, w3 = World.setCell w8 ⟨W.heap.size, 2, none⟩ (.slice a9 nl.length c9) := ⟨_, rfl⟩
          rw [← hw3]
          have f3 : Fr (fun k => k = W.heap.size) w8 w9 := by rw [hw3]; exact (Fr.refl (fun k => k = W.heap.size) _).setCell (p := ⟨W.heap.size, 2, none⟩) (.inl rfl) _
          have b3 : w9.heap[W.heap.size]? = some (.cells (rwArr ⟨u.self, u.act, u.am, nl, u.pm⟩ ⟨y.aa, y.ac, a9, c9⟩ ds' da2 dc2) 51 (0, 0)) := by rw [hw3]; exact blk_set1 V8.out 2 _
          clear hw3 yc zc
          have V9 := Lib.hid b3
          have R9 := Lib.hid (blk_keep f3 R8.out (by omega))
          have F9 := Lib.hid (fr_new F8.out f3 (Nat.le_refl _))
          have H9 := Lib.hid (H8.out.store f3 AP8.out HS.out.1 V8.out (noU32_arr _ _ _ _ _))
          clear f3 b3 V8 R8 F8 H8
          go_upto_region 8 with fail
          refine wp_region_lit ?_
          refine wpList_load_mid (by rfl) 51 _ (by rfl) W.heap.size 0 (by rfl) (Array.toList (rwArr ⟨u.self, u.act, u.am, nl, u.pm⟩ ⟨y.aa, y.ac, a9, c9⟩ ds' da2 dc2)) _ (blk_range V9.out) Try.underlying51 rfl Try.infoRefView ?_
          go_wp2_with (refine wpList_storeW (vs := rwArr ⟨u.self, u.act, u.am, nl, u.pm⟩ ⟨y.aa, y.ac, a9, c9⟩ ds' da2 dc2) R9.out (by rfl) 51 _ _ (by rfl) (by rfl) (by rfl) rfl Try.infoRefView (by rw [← Array.all_toList]; rfl) ?_)
          intro w10 f10 b10
          have F10 := Lib.hid (fr_new F9.out f10 (show W.heap.size ≤ W.heap.size + 1 by omega))
          have R10 := Lib.hid b10
          have H10 := Lib.hid (H9.out.store f10 AP8.out HS.out.2.1 R9.out (by first | exact noU32_z | exact noU32_arr _ _ _ _ _))
          clear f10 b10
          have L10 : Hid ((loadVar 51 ⟨W.heap.size + 1, 0, none⟩).run Try.prog w10 = .ok (.agg (rwArr ⟨u.self, u.act, u.am, nl, u.pm⟩ ⟨y.aa, y.ac, a9, c9⟩ ds' da2 dc2)) w10) := Lib.hid (run_loadVar_mid w10 (W.heap.size + 1) 0 51 (Array.toList (rwArr ⟨u.self, u.act, u.am, nl, u.pm⟩ ⟨y.aa, y.ac, a9, c9⟩ ds' da2 dc2)) _ (blk_range R10.out) Try.underlying51 rfl Try.infoRefView)
          have A10 : Hid ((asAddr (.pointer (some ⟨W.heap.size + 1, 0, none⟩))).run Try.prog w10 = .ok ⟨W.heap.size + 1, 0, none⟩ w10) := Lib.hid (by simp [go_sem])
          go_wp2_with fail
          refine bodyPost_ret (v := .agg (rwArr ⟨u.self, u.act, u.am, nl, u.pm⟩ ⟨y.aa, y.ac, a9, c9⟩ ds' da2 dc2)) (by simp [results, Try.results29, Sem.run_bind, Result.andThen_ok, L10.out, A10.out]) rfl ?_
          have hu : u' = ⟨u.self, u.act, u.am, nl, u.pm⟩ := by rw [HNL.out, HU.out]
          subst hu
          exact ⟨_, _, _, rfl, H10.out, KF8.out.mono (by omega), HDA.out, F10.out⟩
      · have hk := HKK.out
        rw [if_neg (by simp), if_neg hfull] at hk
        obtain ⟨u', ds'⟩ := kk
        injection hk with hk1 hk2
        subst hk2
        have HU := Lib.hid hk1
        have KF := Lib.hid (VwFrom.refl w1 u y)
        clear hk1 HKK hz
        cases hq : y.pa with
        | none =>
          have hl0 : u.pas = [] := sla_none (by have h0 : SlA w1 y.pa u.pas.length y.pc (ints u.pas) := H1.out.pas; rw [hq] at h0; exact h0)
          have yr : w1.cell? ⟨W.heap.size, 2, none⟩ = some (.slice y.pa u.pas.length y.pc) := (Bx.of_block V1.out) 2 _ rfl
          have hltw : W.heap.size < w1.heap.size := (Array.getElem?_eq_some_iff.1 V1.out).1
          rw [hq, hl0] at yr
          simp only [List.length_nil] at yr
          go_wp2_with (at_builtin; refine wpList_append_own _ rfl _ _ 22 rfl w1.heap.size 3 i0 (.int .i64 0) 1 8 Try.underlying22 hi hz0 hz1 hz2 rfl (by decide) _ _ _ rfl ((own_empty w1 _ _ (Nat.le_refl _)).alloc _) ⟨w1.heap.size + 1, 0, none⟩ 1 1 [.int .i64 n] rfl rfl (news_two9 _ _ _ _) (one_one _ rfl) (by unfold maxLen; omega) (by omega) (by simp only [World.size_alloc]; omega) ?_)
          intro v2 w8 hown2 hgrow2 _
          have f8 : Gr w1 w8 := (((Fr.refl (fun _ => False) w1).alloc _).alloc _).grown hgrow2 (fun q hq => .inr (by simp [Value.ownBlock] at hq; omega))
          have hown3 : w8.ownsRow w1.heap.size 3 1 v2 (u.pas ++ [n]).length (ints (u.pas ++ [n])) := by rw [hl0]; simpa using hown2
          obtain ⟨nl, hnl⟩ : ∃ nl, nl = u.pas ++ [n] := ⟨_, rfl⟩
          rw [← hnl] at hown3
          have HNL := Lib.hid hnl
          clear hnl hl0
          obtain ⟨a9, c9, rfl, hs9', hn9, -⟩ := SlA.of_own hown3
          clear hown2 hown3 hgrow2 yr hltw
          have V8 := Lib.hid (blk_keep f8 V1.out (fun h => h))
          have R8 := Lib.hid (blk_keep f8 R1.out (fun h => h))
          have F8 := Lib.hid (Gr.trans F1.out f8)
          have HK := H1.out.gr f8
          have H8 := Lib.hid (show RwAt w8 ⟨u.self, u.act, u.am, nl, u.pm⟩ ⟨y.aa, y.ac, a9, c9⟩ ds' da dc from ⟨HK.act, hs9', HK.dr⟩)
          have hsz8 := F1.out.size
          have KF8 := Lib.hid (show VwFrom w1 u y ⟨u.self, u.act, u.am, nl, u.pm⟩ ⟨y.aa, y.ac, a9, c9⟩ from ⟨KF.out.1, fun q h => .inr (by have := (hn9 q h).1; omega)⟩)
          have AP8 := Lib.hid (AP.out.next KF8.out HS.out.2.2)
          have e11 := hs9'.le
          have e12 := hs9'.max
          clear f8 HK hs9' hn9 V1 R1 F1 H1 AP hsz8
          have yc := (Bx.of_block V8.out) 2 _ rfl
          have zc := Lib.frozen_of_heap V8.out 2
          go_upto_region 8 with fail
          obtain ⟨w9, hw3⟩ : ∃ w3, w3 = World.setCell w8 ⟨W.heap.size, 2, none⟩ (.slice a9 nl.length c9) := ⟨_, rfl⟩
          rw [← hw3]
          have f3 : Fr (fun k => k = W.heap.size) w8 w9 := by rw [hw3]; exact (Fr.refl (fun k => k = W.heap.size) _).setCell (p := ⟨W.heap.size, 2, none⟩) (.inl rfl) _
          have b3 : w9.heap[W.heap.size]? = some (.cells (rwArr ⟨u.self, u.act, u.am, nl, u.pm⟩ ⟨y.aa, y.ac, a9, c9⟩ ds' da dc) 51 (0, 0)) := by rw [hw3]; exact blk_set1 V8.out 2 _
          clear hw3 yc zc
          have V9 := Lib.hid b3
          have R9 := Lib.hid (blk_keep f3 R8.out (by omega))
          have F9 := Lib.hid (fr_new F8.out f3 (Nat.le_refl _))
          have H9 := Lib.hid (H8.out.store f3 AP8.out HS.out.1 V8.out (noU32_arr _ _ _ _ _))
          clear f3 b3 V8 R8 F8 H8
          go_upto_region 8 with fail
          refine wp_region_lit ?_
          refine wpList_load_mid (by rfl) 51 _ (by rfl) W.heap.size 0 (by rfl) (Array.toList (rwArr ⟨u.self, u.act, u.am, nl, u.pm⟩ ⟨y.aa, y.ac, a9, c9⟩ ds' da dc)) _ (blk_range V9.out) Try.underlying51 rfl Try.infoRefView ?_
          go_wp2_with (refine wpList_storeW (vs := rwArr ⟨u.self, u.act, u.am, nl, u.pm⟩ ⟨y.aa, y.ac, a9, c9⟩ ds' da dc) R9.out (by rfl) 51 _ _ (by rfl) (by rfl) (by rfl) rfl Try.infoRefView (by rw [← Array.all_toList]; rfl) ?_)
          intro w10 f10 b10
          have F10 := Lib.hid (fr_new F9.out f10 (show W.heap.size ≤ W.heap.size + 1 by omega))
          have R10 := Lib.hid b10
          have H10 := Lib.hid (H9.out.store f10 AP8.out HS.out.2.1 R9.out (by first | exact noU32_z | exact noU32_arr _ _ _ _ _))
          clear f10 b10
          have L10 : Hid ((loadVar 51 ⟨W.heap.size + 1, 0, none⟩).run Try.prog w10 = .ok (.agg (rwArr ⟨u.self, u.act, u.am, nl, u.pm⟩ ⟨y.aa, y.ac, a9, c9⟩ ds' da dc)) w10) := Lib.hid (run_loadVar_mid w10 (W.heap.size + 1) 0 51 (Array.toList (rwArr ⟨u.self, u.act, u.am, nl, u.pm⟩ ⟨y.aa, y.ac, a9, c9⟩ ds' da dc)) _ (blk_range R10.out) Try.underlying51 rfl Try.infoRefView)
          have A10 : Hid ((asAddr (.pointer (some ⟨W.heap.size + 1, 0, none⟩))).run Try.prog w10 = .ok ⟨W.heap.size + 1, 0, none⟩ w10) := Lib.hid (by simp [go_sem])
          go_wp2_with fail
          refine bodyPost_ret (v := .agg (rwArr ⟨u.self, u.act, u.am, nl, u.pm⟩ ⟨y.aa, y.ac, a9, c9⟩ ds' da dc)) (by simp [results, Try.results29, Sem.run_bind, Result.andThen_ok, L10.out, A10.out]) rfl ?_
          have hu : u' = ⟨u.self, u.act, u.am, nl, u.pm⟩ := by rw [HNL.out, HU.out]
          subst hu
          exact ⟨_, _, _, rfl, H10.out, KF8.out.mono (by omega), DaOf.refl _, F10.out⟩
        | some ad =>
          have HR0 := Lib.hid (show SlA w1 (some ad) u.pas.length y.pc (ints u.pas) from by have h0 : SlA w1 y.pa u.pas.length y.pc (ints u.pas) := H1.out.pas; rw [hq] at h0; exact h0)
          have HNW := Lib.hid (show ∀ (j : Nat) (z : Value), (ints u.pas)[j]? = some z → (w1.alloc (.cells #[] 3)).cell? (ad.add j) = some z from by
            intro j z hj
            obtain ⟨b', o', e, hc⟩ := HR0.out.cell j z hj
            cases e
            rw [Addr.add_lit]
            rw [World.cell?_alloc_old _ _ _ (Nat.ne_of_lt (lt_of_cell hc))]; exact hc)
          have yr : w1.cell? ⟨W.heap.size, 2, none⟩ = some (.slice y.pa u.pas.length y.pc) := (Bx.of_block V1.out) 2 _ rfl
          have hltw : W.heap.size < w1.heap.size := (Array.getElem?_eq_some_iff.1 V1.out).1
          rw [hq] at yr
          go_wp2_with (at_builtin; refine wpList_append_own _ rfl _ _ 22 rfl w1.heap.size 3 i0 (.int .i64 0) 1 8 Try.underlying22 hi hz0 hz1 hz2 rfl (by decide) _ _ _ rfl (own_empty w1 _ _ (Nat.le_refl _)) ad u.pas.length y.pc (ints u.pas) rfl (by simp) HNW.out (one_map _ u.pas (fun _ => rfl)) (by unfold maxLen; omega) (by omega) (by simp) ?_)
          intro v1 w5 hown1 hgrow1 _
          have f5 : Gr w1 w5 := ((Fr.refl (fun _ => False) w1).alloc _).grown hgrow1 (fun q hq => .inr (by simp [Value.ownBlock] at hq; omega))
          have HO1 := Lib.hid hown1
          have F5 := Lib.hid f5
          have hsz5 := f5.size
          clear hown1 hgrow1 f5 yr HR0 HNW
          go_wp2_with (at_builtin; refine wpList_append_own _ rfl _ _ 22 rfl w1.heap.size 3 i0 (.int .i64 0) 1 8 Try.underlying22 hi hz0 hz1 hz2 rfl (by decide) _ _ _ rfl (HO1.out.alloc _) ⟨w5.heap.size, 0, none⟩ 1 1 [.int .i64 n] rfl rfl (news_one _ _ _) (one_one _ rfl) (by unfold maxLen; omega) (by omega) (by rw [World.size_alloc]; omega) ?_)
          intro v2 w8 hown2 hgrow2 _
          have f8 : Gr w1 w8 := (F5.out.alloc _).grown hgrow2 (fun q hq => .inr ((HO1.out.lt q hq).1))
          have hown3 : w8.ownsRow w1.heap.size 3 1 v2 (u.pas ++ [n]).length (ints (u.pas ++ [n])) := by simpa using hown2
          obtain ⟨nl, hnl⟩ : ∃ nl, nl = u.pas ++ [n] := ⟨_, rfl⟩
          rw [← hnl] at hown3
          have HNL := Lib.hid hnl
          clear hnl
          obtain ⟨a9, c9, rfl, hs9', hn9, -⟩ := SlA.of_own hown3
          clear hown2 hown3 hgrow2 HO1 F5 hsz5 hltw
          have V8 := Lib.hid (blk_keep f8 V1.out (fun h => h))
          have R8 := Lib.hid (blk_keep f8 R1.out (fun h => h))
          have F8 := Lib.hid (Gr.trans F1.out f8)
          have HK := H1.out.gr f8
          have H8 := Lib.hid (show RwAt w8 ⟨u.self, u.act, u.am, nl, u.pm⟩ ⟨y.aa, y.ac, a9, c9⟩ ds' da dc from ⟨HK.act, hs9', HK.dr⟩)
          have hsz8 := F1.out.size
          have KF8 := Lib.hid (show VwFrom w1 u y ⟨u.self, u.act, u.am, nl, u.pm⟩ ⟨y.aa, y.ac, a9, c9⟩ from ⟨KF.out.1, fun q h => .inr (by have := (hn9 q h).1; omega)⟩)
          have AP8 := Lib.hid (AP.out.next KF8.out HS.out.2.2)
          have e11 := hs9'.le
          have e12 := hs9'.max
          clear f8 HK hs9' hn9 V1 R1 F1 H1 AP hsz8
          have yc := (Bx.of_block V8.out) 2 _ rfl
          have zc := Lib.frozen_of_heap V8.out 2
          go_upto_region 8 with fail
          obtain ⟨w9, hw3⟩ : ∃ w3, w3 = World.setCell w8 ⟨W.heap.size, 2, none⟩ (.slice a9 nl.length c9) := ⟨_, rfl⟩
          rw [← hw3]
          have f3 : Fr (fun k => k = W.heap.size) w8 w9 := by rw [hw3]; exact (Fr.refl (fun k => k = W.heap.size) _).setCell (p := ⟨W.heap.size, 2, none⟩) (.inl rfl) _
          have b3 : w9.heap[W.heap.size]? = some (.cells (rwArr ⟨u.self, u.act, u.am, nl, u.pm⟩ ⟨y.aa, y.ac, a9, c9⟩ ds' da dc) 51 (0, 0)) := by rw [hw3]; exact blk_set1 V8.out 2 _
          clear hw3 yc zc
          have V9 := Lib.hid b3
          have R9 := Lib.hid (blk_keep f3 R8.out (by omega))
          have F9 := Lib.hid (fr_new F8.out f3 (Nat.le_refl _))
          have H9 := Lib.hid (H8.out.store f3 AP8.out HS.out.1 V8.out (noU32_arr _ _ _ _ _))
          clear f3 b3 V8 R8 F8 H8
          go_upto_region 8 with fail
          refine wp_region_lit ?_
          refine wpList_load_mid (by rfl) 51 _ (by rfl) W.heap.size 0 (by rfl) (Array.toList (rwArr ⟨u.self, u.act, u.am, nl, u.pm⟩ ⟨y.aa, y.ac, a9, c9⟩ ds' da dc)) _ (blk_range V9.out) Try.underlying51 rfl Try.infoRefView ?_
          go_wp2_with (refine wpList_storeW (vs := rwArr ⟨u.self, u.act, u.am, nl, u.pm⟩ ⟨y.aa, y.ac, a9, c9⟩ ds' da dc) R9.out (by rfl) 51 _ _ (by rfl) (by rfl) (by rfl) rfl Try.infoRefView (by rw [← Array.all_toList]; rfl) ?_)
          intro w10 f10 b10
          have F10 := Lib.hid (fr_new F9.out f10 (show W.heap.size ≤ W.heap.size + 1 by omega))
          have R10 := Lib.hid b10
          have H10 := Lib.hid (H9.out.store f10 AP8.out HS.out.2.1 R9.out (by first | exact noU32_z | exact noU32_arr _ _ _ _ _))
          clear f10 b10
          have L10 : Hid ((loadVar 51 ⟨W.heap.size + 1, 0, none⟩).run Try.prog w10 = .ok (.agg (rwArr ⟨u.self, u.act, u.am, nl, u.pm⟩ ⟨y.aa, y.ac, a9, c9⟩ ds' da dc)) w10) := Lib.hid (run_loadVar_mid w10 (W.heap.size + 1) 0 51 (Array.toList (rwArr ⟨u.self, u.act, u.am, nl, u.pm⟩ ⟨y.aa, y.ac, a9, c9⟩ ds' da dc)) _ (blk_range R10.out) Try.underlying51 rfl Try.infoRefView)
          have A10 : Hid ((asAddr (.pointer (some ⟨W.heap.size + 1, 0, none⟩))).run Try.prog w10 = .ok ⟨W.heap.size + 1, 0, none⟩ w10) := Lib.hid (by simp [go_sem])
          go_wp2_with fail
          refine bodyPost_ret (v := .agg (rwArr ⟨u.self, u.act, u.am, nl, u.pm⟩ ⟨y.aa, y.ac, a9, c9⟩ ds' da dc)) (by simp [results, Try.results29, Sem.run_bind, Result.andThen_ok, L10.out, A10.out]) rfl ?_
          have hu : u' = ⟨u.self, u.act, u.am, nl, u.pm⟩ := by rw [HNL.out, HU.out]
          subst hu
          exact ⟨_, _, _, rfl, H10.out, KF8.out.mono (by omega), DaOf.refl _, F10.out⟩

end Go.Proofs.Ytdpnkikaciigoaa
