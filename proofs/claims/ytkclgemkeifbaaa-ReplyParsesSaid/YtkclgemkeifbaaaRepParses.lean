/-
  The law's parses (printed by gen_parses.py).
-/
import Derived.Test.YtkclgemkeifbaaaRepBack
import Derived.Test.YtkclgemkeifbaaaRepBoth
namespace Go.Proofs.Ytkclgemkeifbaaa
open Go.RowKit Go.Proofs

theorem resp_byte (s : List UInt8) (b0 b1 : UInt8) (h2 : s[2]? = some b0) (h3 : s[3]? = some b1) : numAt s 2 = 256 * (b0.toNat : Int) + (b1.toNat : Int) := by
  obtain ⟨l2, e2⟩ := List.getElem?_eq_some_iff.1 h2
  obtain ⟨l3, e3⟩ := List.getElem?_eq_some_iff.1 h3
  unfold numAt
  rw [List.drop_eq_getElem_cons l2, List.drop_eq_getElem_cons l3, e2, e3]
  simp only [List.take_succ_cons, List.take_zero, getNum, List.foldl_cons, List.foldl_nil]
  simp

theorem and_two_all : (List.range 256).all (fun n => bits .and .u8 (n : Int) 2 == bitI ((n : Int) / 2 % 2 == 1) 2) = true := by kernel_rfl
theorem and_two (b : UInt8) : bits .and .u8 (b.toNat : Int) 2 = bitI ((b.toNat : Int) / 2 % 2 == 1) 2 := by
  have h := List.all_eq_true.1 and_two_all b.toNat (by have := b.toNat_lt; simp; omega)
  simpa using h

theorem get2_q (s : List UInt8) (w : World) (h : 3 < s.length) (hs : s.length ≤ 100000) : Calls Try.prog 63 #[.string ⟨s.toArray⟩, .int .i64 2] w fun e w' => e = .returned (.int .i64 (numAt s 2)) ∧ ∃ n, w' = w.drewN n := by
  have := refGet2_any ⟨s.toArray⟩ 2 2 rfl w (by rw [mk_size]; omega) (by rw [mk_size]; omega)
  rw [mk_list] at this
  exact this

def TrueOut (W : World) (e : Ending) (w' : World) : Prop := e = .returned (.bool true) ∧ Gr W w'

set_option maxHeartbeats 8000000 in
set_option maxRecDepth 100000 in
theorem parses_short (s : List UInt8) (W : World) (hs : s.length ≤ 100000) (h12 : s.length < 12) : Calls Try.prog 44 #[.string ⟨s.toArray⟩] W (TrueOut W) := by
  obtain ⟨iq, hq1, hq2, hq3⟩ := info_two Try.zeroQuery
  have zs := mk_size s
  have CP := Lib.hid (show Calls Try.prog 41 #[.string ⟨s.toArray⟩] W (prsErr 2 W) from (parse_any s W hs).mono (fun e w h => by
    unfold ParseEnd at h
    rw [if_pos h12] at h; exact h))
  unfold TrueOut
  go_enter Try.func44, Try.ntmps44
  go_wp2_with fail
  refine CP.out.mono ?_
  rintro e w1 ⟨f1, rfl⟩
  have F1 := Lib.hid f1
  clear f1 CP
  go_wp2_with (refine wpList_fresh (vs := #[.int .u16 0, .bool false, .int .u8 0, .bool false, .bool false, .bool false, .bool false, .int .u8 0, .int .u8 0, .int .u16 0, .int .u16 0, .int .u16 0, .int .u16 0, .bool false, .slice none 0 0, .int .u16 0, .int .u16 0]) hq1 hq2 Try.infoQuery17 (by rfl) (by rw [← Array.all_toList]; rfl) (by rfl) (by rfl) ?_)
  intro w2 f2 b2 l2
  have F2 := Lib.hid (Gr.trans F1.out f2)
  have B2 := Lib.hid (Bx.of_block b2)
  clear f2 b2 F1
  go_wp2_with fail
  go_ret
  exact ⟨rfl, F2.out⟩

set_option maxHeartbeats 8000000 in
set_option maxRecDepth 100000 in
theorem parses_query (s : List UInt8) (W : World) (hs : s.length ≤ 100000) (h12 : ¬ s.length < 12) (hr : (hdRead s).resp = false) : Calls Try.prog 44 #[.string ⟨s.toArray⟩] W (TrueOut W) := by
  obtain ⟨iq, hq1, hq2, hq3⟩ := info_two Try.zeroQuery
  have zs := mk_size s
  have CP := Lib.hid (show Calls Try.prog 41 #[.string ⟨s.toArray⟩] W (prsErr 8 W) from (parse_any s W hs).mono (fun e w h => by
    unfold ParseEnd at h
    rw [if_neg h12, if_pos hr] at h; exact h))
  unfold TrueOut
  go_enter Try.func44, Try.ntmps44
  go_wp2_with fail
  refine CP.out.mono ?_
  rintro e w1 ⟨f1, rfl⟩
  have F1 := Lib.hid f1
  clear f1 CP
  go_wp2_with (refine wpList_fresh (vs := #[.int .u16 0, .bool false, .int .u8 0, .bool false, .bool false, .bool false, .bool false, .int .u8 0, .int .u8 0, .int .u16 0, .int .u16 0, .int .u16 0, .int .u16 0, .bool false, .slice none 0 0, .int .u16 0, .int .u16 0]) hq1 hq2 Try.infoQuery17 (by rfl) (by rw [← Array.all_toList]; rfl) (by rfl) (by rfl) ?_)
  intro w2 f2 b2 l2
  have F2 := Lib.hid (Gr.trans F1.out f2)
  have B2 := Lib.hid (Bx.of_block b2)
  clear f2 b2 F1
  have hb0 := (s[2]'(by omega)).toNat_lt
  have hb1 := (s[3]'(by omega)).toNat_lt
  have hn := resp_byte s _ _ (List.getElem?_eq_getElem (show 2 < s.length by omega)) (List.getElem?_eq_getElem (show 3 < s.length by omega))
  have e2 : (ByteArray.mk s.toArray)[2]'(by rw [zs]; omega) = s[2]'(by omega) := rfl
  have hr' : (numAt s 2 / 32768 % 2 == 1) = false := hr
  have hlt : ((s[2]'(by omega)).toNat : Int) < 128 := by simp at hr'; omega
  clear hr hr' hn
  have h2 : (2 : Int) < (s.length : Int) := by omega
  go_wp2_with fail
  go_ret
  exact ⟨rfl, F2.out⟩

set_option maxHeartbeats 8000000 in
set_option maxRecDepth 100000 in
theorem parses_bad (s : List UInt8) (W : World) (hs : s.length ≤ 100000) (h12 : ¬ s.length < 12) (hr : (hdRead s).resp = true) (hok : prsOk s = false) : Calls Try.prog 44 #[.string ⟨s.toArray⟩] W (TrueOut W) := by
  obtain ⟨iq, hq1, hq2, hq3⟩ := info_two Try.zeroQuery
  have zs := mk_size s
  have CP := Lib.hid (show Calls Try.prog 41 #[.string ⟨s.toArray⟩] W (prsErr 4 W) from (parse_any s W hs).mono (fun e w h => by
    unfold ParseEnd at h
    rw [if_neg h12, if_neg (by rw [hr]; decide), if_neg (by rw [hok]; decide)] at h; exact h))
  unfold TrueOut
  go_enter Try.func44, Try.ntmps44
  go_wp2_with fail
  refine CP.out.mono ?_
  rintro e w1 ⟨f1, rfl⟩
  have F1 := Lib.hid f1
  clear f1 CP
  go_wp2_with (refine wpList_fresh (vs := #[.int .u16 0, .bool false, .int .u8 0, .bool false, .bool false, .bool false, .bool false, .int .u8 0, .int .u8 0, .int .u16 0, .int .u16 0, .int .u16 0, .int .u16 0, .bool false, .slice none 0 0, .int .u16 0, .int .u16 0]) hq1 hq2 Try.infoQuery17 (by rfl) (by rw [← Array.all_toList]; rfl) (by rfl) (by rfl) ?_)
  intro w2 f2 b2 l2
  have F2 := Lib.hid (Gr.trans F1.out f2)
  have B2 := Lib.hid (Bx.of_block b2)
  clear f2 b2 F1
  have hb0 := (s[2]'(by omega)).toNat_lt
  have hb1 := (s[3]'(by omega)).toNat_lt
  have hn := resp_byte s _ _ (List.getElem?_eq_getElem (show 2 < s.length by omega)) (List.getElem?_eq_getElem (show 3 < s.length by omega))
  have e2 : (ByteArray.mk s.toArray)[2]'(by rw [zs]; omega) = s[2]'(by omega) := rfl
  have hr' : (numAt s 2 / 32768 % 2 == 1) = true := hr
  have hlt : (128 : Int) ≤ ((s[2]'(by omega)).toNat : Int) := by simp at hr'; omega
  clear hr hr' hn hok
  have h2 : (2 : Int) < (s.length : Int) := by omega
  have x1 := B2.out 13 _ rfl
  go_wp2_with fail
  go_ret
  exact ⟨rfl, F2.out⟩

set_option maxHeartbeats 8000000 in
set_option maxRecDepth 100000 in
theorem parses_main (s : List UInt8) (W : World) (hs : s.length ≤ 100000) (h12 : ¬ s.length < 12) (hr : (hdRead s).resp = true) (hok : prsOk s = true) : Calls Try.prog 44 #[.string ⟨s.toArray⟩] W (TrueOut W) := by
  obtain ⟨iq, hq1, hq2, hq3⟩ := info_two Try.zeroQuery
  have zs := mk_size s
  have CP := Lib.hid (show Calls Try.prog 41 #[.string ⟨s.toArray⟩] W (prsEnd s W) from (parse_any s W hs).mono (fun e w h => by
    unfold ParseEnd at h
    rw [if_neg h12, if_neg (by rw [hr]; decide), if_pos hok] at h; exact h))
  have DF := Lib.hid (rdReply_fit s (hdRead s).c0 (hdRead s).c1)
  have HF := Lib.hid (prsHd_fits (hdRead s) (hdRead_fits s) (prsD s).asked)
  have KF := Lib.hid ((hdRead_fits s).code)
  have BK := Lib.hid (back_parse s (by omega) hok)
  unfold TrueOut
  have CPE := Lib.hid (show ∀ e w', prsEnd s W e w' → ∃ a cap L v, Gr W w' ∧ w'.ownsRow W.heap.size 9 1 (.slice a (prsD s).name.length cap) (prsD s).name.length (strVs (prsD s).name) ∧ L.map Prod.fst = (prsD s).l ∧ RowsOwn W.heap.size w' L v ∧
      e = .returned (.tuple #[.agg (qCells (hdAsked (prsHd (hdRead s)) (prsD s).asked) (prsD s).asked a (prsD s).name.length cap (prsD s).t (prsD s).c), .int .i64 (hdRead s).code, .bool (hdRead s).trunc, v, .int .i64 0]) from by
    rintro e w' ⟨g, a, cap, L, v, h1, h2, h3, h4⟩
    exact ⟨a, cap, L, v, g, h1, h2, h3, h4⟩)
  have KB := Lib.hid (show prsB s = bldOut (hdAsked (prsHd (hdRead s)) (prsD s).asked) (prsD s).asked (prsD s).name (prsD s).t (prsD s).c (hdRead s).code (prsD s).l from rfl)
  have DF' := Lib.hid (show (0 ≤ (prsD s).t ∧ (prsD s).t ≤ 65535) ∧ (0 ≤ (prsD s).c ∧ (prsD s).c ≤ 65535) ∧ ∀ r ∈ (prsD s).l, r.Fits from DF.out)
  clear DF
  generalize prsD s = D at *
  generalize prsB s = O at *
  generalize hdAsked (prsHd (hdRead s)) D.asked = H at *
  have HR := Lib.hid (show (hdRead s).trunc = (numAt s 2 / 512 % 2 == 1) from rfl)
  have hr' : (numAt s 2 / 32768 % 2 == 1) = true := hr
  generalize (hdRead s).trunc = tr at *
  generalize (hdRead s).code = code at *
  clear hr hok
  go_enter Try.func44, Try.ntmps44
  go_wp2_with fail
  refine CP.out.mono ?_
  intro e w1 h
  obtain ⟨pa, pcap, PL, v, f1, pow, pmap, prow, rfl⟩ := CPE.out e w1 h
  clear h CP CPE
  obtain ⟨pr, prc, rfl⟩ := prow.slice
  obtain ⟨pan, pcn, hpe, psn, -⟩ := SlA.of_own pow
  cases hpe
  have F1 := Lib.hid f1
  have hfits : ∀ y ∈ PL, y.1.Fits := fun y hy => DF'.out.2.2 y.1 (by rw [← pmap]; exact List.mem_map_of_mem hy)
  have C1 : Hid (∀ w, Gr w1 w → Calls Try.prog 39 #[.agg (qCells H D.asked pa D.name.length pcap D.t D.c), .int .i64 code, .slice pr PL.length prc] w (BuildEnd O w)) := Lib.hid (fun w f => by
    rw [KB.out, ← pmap]
    exact build_any H HF.out D.asked pa pcap D.name D.t D.c code pr prc PL w (psn.keep f (fun _ _ h => h)) DF'.out.1 DF'.out.2.1 (by have := KF.out; omega) ((prow.at hfits).keep f))
  unfold BuildEnd at C1
  have hl1 := (prow.at hfits).row.le
  have hl2 := (prow.at hfits).row.max
  have hl3 := psn.le
  have hl4 := psn.max
  clear f1 pow pmap prow psn hfits KB DF' HF KF
  go_wp2_with (refine wpList_fresh (vs := qCells H D.asked pa D.name.length pcap D.t D.c) hq1 hq2 Try.infoQuery17 (by rfl) (by rw [← Array.all_toList]; rfl) (by rfl) (by rfl) ?_)
  intro w2 f2 b2 l2
  have F2 := Lib.hid (Gr.trans F1.out f2)
  have C2 := Lib.hid (C1.out w2 f2)
  obtain ⟨q, hq⟩ : ∃ q, q = w1.heap.size := ⟨_, rfl⟩
  rw [← hq] at b2 l2 ⊢
  clear hq
  have Q2 := Lib.hid b2
  clear f2 b2 F1 C1
  obtain ⟨O1, On, O2⟩ := O
  obtain ⟨rfl, hB⟩ := BK.out
  simp only at hB C2
  have hBl := hB.len
  have HB := Lib.hid hB
  have zo := mk_size O1
  clear BK hB
  have hb0 := (s[2]'(by omega)).toNat_lt
  have hb1 := (s[3]'(by omega)).toNat_lt
  have hn := resp_byte s _ _ (List.getElem?_eq_getElem (show 2 < s.length by omega)) (List.getElem?_eq_getElem (show 3 < s.length by omega))
  have hlt : (128 : Int) ≤ ((s[2]'(by omega)).toNat : Int) := by simp at hr'; omega
  have h2 : (2 : Int) < (s.length : Int) := by omega
  have HN := Lib.hid hn
  obtain ⟨bv, hbv, hbd⟩ : ∃ v : Int, bits .and .u8 ((s[2]'(by omega)).toNat : Int) 2 = v ∧ decide (0 < v) = tr := by
    refine ⟨_, and_two _, ?_⟩
    have e : ((s[2]'(by omega)).toNat : Int) / 2 % 2 = numAt s 2 / 512 % 2 := by rw [hn]; omega
    rw [e, HR.out]
    cases (numAt s 2 / 512 % 2 == 1) <;> rfl
  clear HR
  have e2 : (ByteArray.mk s.toArray)[2]'(by rw [zs]; omega) = s[2]'(by omega) := rfl
  clear hn hr'
  go_upto_region 8 with fail
  refine wp_region_lit ?_
  refine wpList_load_query Q2.out (by rfl) _ (by rfl) (by rfl) ?_
  go_wp2_with fail
  refine C2.out.mono ?_
  rintro e w3 ⟨rfl, f3⟩
  have F3 := Lib.hid (Gr.trans F2.out f3)
  clear f3 C2 Q2 F2
  obtain ⟨u, hu1, hu2⟩ : ∃ u, (ByteArray.mk O1.toArray).extract 0 2 = u ∧ (ByteArray.mk s.toArray).extract 0 2 = u := ⟨_, rfl, by rw [mk_extract, mk_extract, HB.out.pre]⟩
  obtain ⟨v, hv1, hv2⟩ : ∃ v, (ByteArray.mk O1.toArray).extract 4 s.length = v ∧ (ByteArray.mk s.toArray).extract 4 s.length = v := ⟨_, rfl, by
    have e1 := ext_all O1 4
    rw [hBl] at e1
    rw [ext_all, e1, HB.out.four]⟩
  have hfl := HB.out.flags
  go_wp2_with fail
  go_quiet ((go_at_call 63; exact Calls.quiet_of (get2_q _ _ (by omega) (by omega))))
  go_wp2_with fail
  go_ret
  exact ⟨rfl, F3.out.drewN _⟩

theorem parses_any (s : List UInt8) (W : World) (hs : s.length ≤ 100000) : Calls Try.prog 44 #[.string ⟨s.toArray⟩] W (TrueOut W) := by
  by_cases h12 : s.length < 12
  · exact parses_short s W hs h12
  by_cases hr : (hdRead s).resp = true
  · by_cases hok : prsOk s = true
    · exact parses_main s W hs h12 hr hok
    · exact parses_bad s W hs h12 hr (by simpa using hok)
  · exact parses_query s W hs h12 (by simpa using hr)
end Go.Proofs.Ytkclgemkeifbaaa
