/-
  The walk of StreamPieces.
-/
import Derived.Test.YtkclgemkeifbaaaSPTailC
namespace Go.Proofs.Ytkclgemkeifbaaa
open Go.RowKit Go.Proofs

set_option maxHeartbeats 16000000 in
set_option maxRecDepth 100000 in
theorem streamPieces_walk (a : Option Addr) (cap : Nat) (l : List SMsg) (ac : Option Addr) (capc : Nat) (cuts : List Int) (s : List UInt8) (W : World) (ha : SlA W a l.length cap (l.flatMap SMsg.cells)) (hl : ∀ x ∈ l, x.fits)
    (hc : SlA W ac cuts.length capc (cuts.map (Value.int .u8))) (hc8 : ∀ x ∈ cuts, 0 ≤ x ∧ x < 256) :
    Calls Try.prog 10 #[.slice a l.length cap, .slice ac cuts.length capc, .string ⟨s.toArray⟩] W fun e w' => e = .returned (.bool true) ∧ Below W.heap.size W w' := by
  obtain ⟨i1, hi1, hi2, hi3, hi4⟩ := info_parts Try.infoMsg
  have HA := Lib.hid ha
  have HL := Lib.hid hl
  have HC := Lib.hid hc
  have HC8 := Lib.hid hc8
  have hcap := ha.le
  have hmax := ha.max
  have hcapc := hc.le
  have hmaxc := hc.max
  have S0 := Lib.hid (fun w => speaks06_any w)
  obtain ⟨n, hn⟩ : ∃ n, n = min l.length 8 := ⟨_, rfl⟩
  have HN := Lib.hid hn
  have q1 : n ≤ l.length := by omega
  have q2 : n ≤ 8 := by omega
  clear ha hl hn hc hc8
  go_enter Try.func10, Try.ntmps10
  go_wp2_with fail
  refine (S0.out _).mono ?_
  rintro e w1 ⟨rfl, f1⟩
  have F1 := Lib.hid f1
  clear f1 S0
  go_wp2_with fail
  go_loopw [7, 8, 9] (fun sv v iv wr => ∃ (i : Nat) (L : List (Msg × MsgP)), iv = .int .i64 i ∧ i ≤ n ∧ sv = .string ⟨(frs (l.take i)).toArray⟩ ∧ MsgsOwn W.heap.size wr L v ∧ Hid (L.map Prod.fst = (l.take i).map SMsg.told) ∧ Gr W wr) (fun _ _ iv _ => n - (intOf iv).toNat)
  case atStart => exact ⟨0, [], rfl, Nat.zero_le _, rfl, MsgsOwn.nil _ _, Lib.hid rfl, F1.out⟩
  case round =>
    clear F1
    obtain ⟨i, L, rfl, hi, rfl, hM, HLM, fr⟩ := hrel
    have FR := Lib.hid fr
    have M0 := Lib.hid hM
    clear fr hM
    go_upto_region 6 with fail
    go_cut [38] from 31 to 38 (fun c wx => c = .bool (decide (i < n)) ∧ wr = wx)
    case first =>
      by_cases h1 : (i : Int) < (l.length : Int)
      · by_cases h2 : (i : Int) < 8
        · have hd := Lib.hid (show decide (i < n) = true by have := HN.out; simp; omega)
          go_wp2_with fail
          go_meet
          exact ⟨by rw [hd.out], rfl⟩
        · have hd := Lib.hid (show decide (i < n) = false by have := HN.out; simp; omega)
          go_wp2_with fail
          go_meet
          exact ⟨by rw [hd.out], rfl⟩
      · have hd := Lib.hid (show decide (i < n) = false by have := HN.out; simp; omega)
        go_wp2_with fail
        go_meet
        exact ⟨by rw [hd.out], rfl⟩
    case rest =>
      obtain ⟨rfl, rfl⟩ := hcut
      by_cases hlt : i < n
      · rw [decide_eq_true hlt]
        obtain ⟨bb, o, rfl, c0, c1, c2⟩ := SMsg.at (HA.out.old FR.out (fun _ h => h.elim)) i (by omega)
        have hfit := HL.out l[i] (List.getElem_mem (by omega))
        have HSN := Lib.hid (frs_snoc l i (by omega))
        have HST : Hid ((l.take (i + 1)).map SMsg.told = (l.take i).map SMsg.told ++ [l[i].told]) := Lib.hid (by rw [List.take_succ_eq_append_getElem (by omega), List.map_append]; rfl)
        generalize l[i] = x at *
        have HT := Lib.hid (told_any x wr hfit)
        have HEN := Lib.hid (fun w p (h : MsgAt w x.told p) => encode_told x h)
        have HFR := Lib.hid (fun w p (h : MsgAt w x.told p) => frame_told x h)
        have hel := told_enc x
        have hfb := frB_length x.told
        have e2 : (⟨(numB 2 x.told.enc.length).toArray⟩ : ByteArray) ++ ⟨x.told.enc.toArray⟩ = ⟨x.told.frB.toArray⟩ := by rw [mk_app']; rfl
        clear hfit
        generalize x.told = m at *
        go_wp2_with fail
        refine HT.out.mono ?_
        rintro e w2 ⟨f2, p, rfl, ho⟩
        have F2 := Lib.hid (Gr.trans FR.out f2)
        have M2 := Lib.hid (M0.out.keep f2 (fun _ h => h.elim))
        have HO := Lib.hid (ho.base FR.out.size)
        clear f2 ho FR HT c0 c1 c2 M0
        obtain ⟨w3, hw3⟩ : ∃ w3, w3 = w2.alloc (.cells #[.int .i64 m.kind, .int .i64 m.node, .int .i64 m.walk, .bool m.high, .slice p.a1 m.nodes.length p.c1, .slice p.a2 m.ids.length p.c2, .slice p.a3 m.recs.length p.c3] 30) := ⟨_, rfl⟩
        go_upto_region 9 with fail
        rw [← hw3]
        have f3 : Gr w2 w3 := by rw [hw3]; exact (Fr.refl _ _).alloc _
        have BX3 := Lib.hid (show Bx w3 w2.heap.size (m.cells p) by rw [hw3]; exact Bx.new w2 (m.arr p) 30)
        have F3 := Lib.hid (Gr.trans F2.out f3)
        have M3 := Lib.hid (M2.out.keep f3 (fun _ h => h.elim))
        have HO3 := Lib.hid (HO.out.keep f3 (fun _ h => h.elim))
        clear f3 hw3 F2 M2 HO
        have y0 := BX3.out 0 _ rfl
        have y1 := BX3.out 1 _ rfl
        have y2 := BX3.out 2 _ rfl
        have y3 := BX3.out 3 _ rfl
        have y4 := BX3.out 4 _ rfl
        have y5 := BX3.out 5 _ rfl
        have y6 := BX3.out 6 _ rfl
        go_wp2_with fail
        refine (HEN.out w3 p HO3.out.at).mono ?_
        rintro e w4 ⟨rfl, f4⟩
        have F4 := Lib.hid (Gr.trans F3.out f4)
        have M4 := Lib.hid (M3.out.keep f4 (fun _ h => h.elim))
        have HO4 := Lib.hid (HO3.out.keep f4 (fun _ h => h.elim))
        have BX4 := Lib.hid (BX3.out.keep f4 (fun h => h))
        clear f4 F3 M3 HO3 BX3 y0 y1 y2 y3 y4 y5 y6
        have y0 := BX4.out 0 _ rfl
        have y1 := BX4.out 1 _ rfl
        have y2 := BX4.out 2 _ rfl
        have y3 := BX4.out 3 _ rfl
        have y4 := BX4.out 4 _ rfl
        have y5 := BX4.out 5 _ rfl
        have y6 := BX4.out 6 _ rfl
        go_wp2_with fail
        refine (HFR.out w4 p HO4.out.at).mono ?_
        rintro e w5 ⟨rfl, f5⟩
        have F5 := Lib.hid (Gr.trans F4.out f5)
        have M5 := Lib.hid (M4.out.keep f5 (fun _ h => h.elim))
        have HO5 := Lib.hid (HO4.out.keep f5 (fun _ h => h.elim))
        have BX5 := Lib.hid (BX4.out.keep f5 (fun h => h))
        have z1 := mk_size m.enc
        have CL := Lib.hid (length06_any m.enc.length (by omega) w5)
        clear f5 F4 M4 HO4 BX4 HEN HFR y0 y1 y2 y3 y4 y5 y6
        go_wp2_with fail
        refine CL.out.mono ?_
        rintro e w6 ⟨rfl, f6⟩
        have F6 := Lib.hid (Gr.trans F5.out f6)
        have M6 := Lib.hid (M5.out.keep f6 (fun _ h => h.elim))
        have HO6 := Lib.hid (HO5.out.keep f6 (fun _ h => h.elim))
        have BX6 := Lib.hid (BX5.out.keep f6 (fun h => h))
        clear f6 F5 M5 HO5 BX5 CL
        have z2 := mk_size (numB 2 m.enc.length)
        have z3 : (numB 2 m.enc.length).length = 2 := numB_length _ _
        have z4 := mk_size m.frB
        have z5 := mk_size (frs (l.take i))
        have b0 : (l.take i).length ≤ 8 := by simp; omega
        have b1 : (frs (l.take i)).length ≤ 816 := by have := frs_length (l.take i); omega
        have e1 : (⟨(frs (l.take i)).toArray⟩ : ByteArray) ++ ⟨m.frB.toArray⟩ = ⟨(frs (l.take (i + 1))).toArray⟩ := by rw [mk_app', HSN.out]
        have y0 := BX6.out 0 _ rfl
        have y1 := BX6.out 1 _ rfl
        have y2 := BX6.out 2 _ rfl
        have y3 := BX6.out 3 _ rfl
        have y4 := BX6.out 4 _ rfl
        have y5 := BX6.out 5 _ rfl
        have y6 := BX6.out 6 _ rfl
        go_upto_region 13 with fail
        have hLi : L.length ≤ 8 := by have := congrArg List.length HLM.out; simp at this; omega
        obtain ⟨w7, hw7⟩ : ∃ w7, w7 = w6.alloc (.cells #[.int .i64 m.kind, .int .i64 m.node, .int .i64 m.walk, .bool m.high, .slice p.a1 m.nodes.length p.c1, .slice p.a2 m.ids.length p.c2, .slice p.a3 m.recs.length p.c3] 30) := ⟨_, rfl⟩
        have f7 : Gr w6 w7 := by rw [hw7]; exact (Fr.refl _ _).alloc _
        have n7 : ∀ (j : Nat) (x : Value), (m.cells p)[j]? = some x → w7.cell? ((⟨w6.heap.size, 0, none⟩ : Addr).add j) = some x := by rw [hw7]; exact news_cells w6 (m.arr p) 30
        have M7 := Lib.hid (M6.out.keep f7 (fun _ h => h.elim))
        have HO7 := Lib.hid (HO6.out.keep f7 (fun _ h => h.elim))
        have F7 := Lib.hid (Gr.trans F6.out f7)
        have HW7 := Lib.hid hw7
        have N7 := Lib.hid n7
        clear hw7 n7 f7 M6 HO6 F6 BX6 z1 z2 z3 b0 e2
        go_wp2_with (at_builtin; rw [← HW7.out]; refine wpList_append_lies _ rfl _ _ 55 rfl W.heap.size 30 i1 msgZeroV 7 104 Try.underlying55 hi1 hi2 hi3 hi4 rfl (by decide) _ _ _ rfl M7.out.row ⟨w6.heap.size, 0, none⟩ 1 1 (m.cells p) rfl rfl N7.out (one_cells m p) (by decide) (by unfold maxLen; omega) (by omega) F7.out.size _ rfl ?_)
        intro g8 c8 w8 ho hg hat hlt8
        have f8 : Fr (fun k => u8.ownBlock = some k) w7 w8 := (Fr.refl _ _).grown hg (fun q hq => .inl hq)
        have M8 : Hid (MsgsOwn W.heap.size w8 (L ++ [(m, p)]) (.slice (some ⟨g8, 0, none⟩) (L.length + 1) c8)) := Lib.hid (by
          refine ⟨by simpa using ho, fun x hx => ?_⟩
          rcases List.mem_append.1 hx with hx | hx
          · exact (M7.out.own x hx).other M7.out.row hg
          · simp only [List.mem_singleton] at hx
            subst hx
            exact HO7.out.other M7.out.row hg)
        have F8 : Hid (Gr W w8) := Lib.hid (Fr.trans F7.out f8 (fun k h => .inr (M7.out.row.lt k h).1))
        clear ho hg hat f8 M7 HO7 F7 HW7 N7 y0 y1 y2 y3 y4 y5 y6
        go_wp2_with fail
        go_roundw
        case rel => exact ⟨i + 1, L ++ [(m, p)], by go_num, by omega, rfl, M8.out, Lib.hid (by rw [HST.out, List.map_append, HLM.out]; rfl), F8.out⟩
        case measure => simp [intOf]; omega
      · rw [decide_eq_false hlt]
        obtain rfl : i = n := by omega
        obtain ⟨m, hm1, hm2, hite, hmin, hm3⟩ := cut_minK 40 40 rfl s
        have hsz := mk_size s
        have hx1 : (⟨s.toArray⟩ : ByteArray).extract 0 m = ⟨(s.take m).toArray⟩ := by rw [mk_extract, List.drop_zero]
        obtain ⟨J, hJ⟩ : ∃ J, J = s.take m := ⟨_, rfl⟩
        have hJl : J.length ≤ 40 := by rw [hJ]; simp; omega
        rw [← hJ] at hx1
        obtain ⟨fb, hfb⟩ : ∃ fb, fb = frs (l.take i) := ⟨_, rfl⟩
        have hfbl : fb.length ≤ 816 := by have h := frs_length (l.take i); rw [← hfb] at h; have : (l.take i).length ≤ 8 := (by simp; omega); omega
        obtain ⟨wn, hwn⟩ : ∃ wn, wn = (l.take i).map SMsg.told := ⟨_, rfl⟩
        have hfeed : feed (fb ++ J) = (wn ++ (feed J).1, (feed J).2) := by
          rw [hfb, hwn]
          have e : frs (l.take i) = ((l.take i).map SMsg.told).flatMap Msg.frB := by unfold frs; rw [List.flatMap_map]
          rw [e]
          refine feed_frames (fun m hm => ?_) J
          obtain ⟨x, _, rfl⟩ := List.mem_map.1 hm
          exact ⟨told_may x, told_fits x, by have := told_enc x; omega⟩
        have HFD := Lib.hid hfeed
        rw [← hwn] at HLM
        rw [← hfb]
        have hA : (fb ++ J).length ≤ 856 := by rw [List.length_append]; omega
        have hx2 : (⟨fb.toArray⟩ : ByteArray) ++ ⟨J.toArray⟩ = ⟨(fb ++ J).toArray⟩ := mk_app' _ _
        have z1 := mk_size fb
        have z2 := mk_size J
        have hwl : wn.length ≤ 8 := by rw [hwn]; simp; omega
        clear hfeed hfb hJ hwn hm3 HN HL HA q1 q2 hi hlt
        generalize fb ++ J = A at *
        obtain ⟨w2, hw2⟩ : ∃ w2, w2 = (wr.alloc (.cells #[.string ⟨#[]⟩, .int .i64 0] 54)).alloc (.cells #[.string ⟨#[]⟩, .int .i64 0] 54) := ⟨_, rfl⟩
        have f2 : Gr wr w2 := by rw [hw2]; exact ((Fr.refl _ _).alloc _).alloc _
        have SX : Hid (SplAt w2 wr.heap.size [] 0) := Lib.hid (by unfold SplAt; rw [hw2, heap_alloc_if, if_neg (by simp), heap_alloc_if, if_pos rfl])
        have SY : Hid (SplAt w2 (wr.heap.size + 1) [] 0) := Lib.hid (by unfold SplAt; rw [hw2, heap_alloc_if, if_pos (by simp)])
        have F2 := Lib.hid (Gr.trans FR.out f2)
        have szr := FR.out.size
        have HS2 : Hid (w2.heap.size = wr.heap.size + 2) := Lib.hid (by rw [hw2]; simp)
        have HW2 := Lib.hid hw2
        have T2 := Lib.hid (Fr.mono (T := fun k => wr.heap.size ≤ k) f2 (fun _ _ h => h.elim))
        clear hw2 f2 FR
        have C1 := Lib.hid (from_any (st := ([], 0)) A SY.out (by simp; omega))
        go_upto_region 14 with fail
        refine wp_tail ?_ (by assumption)
        exact sp_tail2 hi1 hi2 hi3 hi4 HC HC8 hcap hmax hcapc hmaxc M0 hm1 hm2 hite hmin hsz hx1 hJl hfbl HLM z1 z2 hwl HFD hA hx2 SX SY F2 szr HS2 HW2 T2 C1
end Go.Proofs.Ytkclgemkeifbaaa
