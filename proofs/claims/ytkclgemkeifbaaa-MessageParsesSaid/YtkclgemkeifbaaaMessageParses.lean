/-
  The walk of MessageParses.
-/
import Derived.Test.YtkclgemkeifbaaaMessageCodes
import Derived.Lib.ConvBytes
namespace Go.Proofs.Ytkclgemkeifbaaa
open Go.RowKit Go.Proofs

/-- what a conversion of a text to bytes leaves -/
theorem bytes_new (w : World) (s : ByteArray) : ∃ (wB : World) (c : Nat), (convert 9 47 (.string s)).run Try.prog w = .ok (.slice (some ⟨w.heap.size, 0, none⟩) s.size c) wB ∧ Gr w wB ∧ w.heap.size < wB.heap.size ∧
    (∀ j, j < s.size → wB.cell? ⟨w.heap.size, j, none⟩ = some (.int .u8 (s.data.toList.getD j 0).toNat)) ∧ (∀ j, j < s.size → wB.frozen? ⟨w.heap.size, j, none⟩ = false) := by
  refine ⟨_, _, Lib.run_convert_string_bytes w _ _ 5 s Try.underlying9 Try.underlying47 Try.underlying5, ⟨rfl, rfl, rfl, by rw [Lib.bytesWorld_size]; omega, fun k hk _ => Lib.bytesWorld_at_old w _ s k hk⟩, by rw [Lib.bytesWorld_size]; omega, fun j hj => Lib.bytesWorld_cell w _ s j hj, fun j hj => ?_⟩
  have hs : s.size ≤ (Lib.bytesCells w 5 s).size := by unfold Lib.bytesCells; simp
  simp only [World.frozen?, Lib.bytesWorld_at_new]
  simp
  omega
theorem set_getD (l : List UInt8) (k j : Nat) (v : UInt8) (hj : j < l.length) : (l.set k v).getD j 0 = if k = j then v else l.getD j 0 := by
  simp only [List.getD_eq_getElem?_getD, List.getElem?_set]
  by_cases h : k = j
  · subst h; simp [hj]
  · simp [h]
theorem rot1 (n : Nat) (h0 : 0 < n) (h1 : n ≤ 4096) (t : Int) : ∃ k : Nat, (wrap64 (t.tmod n + n)).tmod n = k ∧ k < n := by
  have a1 : t.tmod n < n := Int.tmod_lt_of_pos _ (by omega)
  have a2 : -(n : Int) < t.tmod n := by
    rcases Int.le_total 0 t with h | h
    · have := Int.tmod_nonneg (n : Int) h; omega
    · have h3 := Int.tmod_lt_of_pos (-t) (show (0 : Int) < n by omega)
      rw [Int.neg_tmod] at h3; omega
  generalize t.tmod n = z at *
  rw [show wrap64 (z + n) = z + n by unfold wrap64; omega]
  have b1 : (z + n).tmod n < n := Int.tmod_lt_of_pos _ (by omega)
  have b2 : 0 ≤ (z + n).tmod n := Int.tmod_nonneg _ (by omega)
  exact ⟨((z + n).tmod n).toNat, by omega, by omega⟩

set_option maxHeartbeats 4000000 in
set_option maxRecDepth 100000 in
theorem messageParses_walk (x : LMsg) (xp : MsgP) (sa sb : Int) (cut : Bool) (W : World) (hx : LMsgAt W x xp) (hok : x.Ok) :
    Calls Try.prog 4 #[x.val xp, .agg #[.int .i64 sa, .int .i64 sb], .bool cut] W fun e w' => e = .returned (.bool true) ∧ Below W.heap.size W w' := by
  have HX := Lib.hid hx
  have HOK := Lib.hid hok
  clear hx hok
  obtain ⟨m, hm⟩ : ∃ m, m = x.msg := ⟨_, rfl⟩
  have HF := Lib.hid (show m.fits by rw [hm]; exact LMsg.msg_fits HOK.out)
  have HM := Lib.hid hm; clear hm
  have S0 := Lib.hid (fun w => speaks05_any w)
  obtain ⟨w0, hw0⟩ : ∃ w0, w0 = (W.alloc (.cells (x.arr xp) 25)).alloc (.cells #[.int .i64 sa, .int .i64 sb] 46) := ⟨_, rfl⟩
  have F0 := Lib.hid (show Gr W w0 by rw [hw0]; exact ((Fr.refl _ _).alloc _).alloc _)
  have B0 := Lib.hid (show Bx w0 W.heap.size (x.cells xp) by rw [hw0]; exact (Bx.new W (x.arr xp) 25).keep ((Fr.refl (fun _ => False) _).alloc _) (fun h => h))
  have D0 := Lib.hid (show Bx w0 (W.heap.size + 1) [.int .i64 sa, .int .i64 sb] by
    have := Bx.new (W.alloc (.cells (x.arr xp) 25)) #[.int .i64 sa, .int .i64 sb] 46
    rw [World.size_alloc] at this
    rw [hw0]; exact this)
  have HW0 := Lib.hid (show w0 = (W.alloc (.cells #[.int .i64 x.kind, .int .i64 x.node, .int .i64 x.walk, .bool x.high, .slice xp.a1 x.nodes.length xp.c1, .slice xp.a2 x.ids.length xp.c2, .slice xp.a3 x.recs.length xp.c3] 25)).alloc (.cells #[.int .i64 sa, .int .i64 sb] 46) from hw0)
  clear hw0
  go_enter Try.func4, Try.ntmps4
  go_wp2_with fail
  rw [← HW0.out]
  clear HW0
  refine (S0.out _).mono ?_
  rintro e w1 ⟨rfl, f1⟩
  have F1 := Lib.hid (Gr.trans F0.out f1)
  have B1 := Lib.hid (B0.out.keep f1 (fun h => h))
  have D1 := Lib.hid (D0.out.keep f1 (fun h => h))
  clear f1 B0 F0 D0
  have HB := Lib.hid (both_any x xp w1 (HX.out.keep F1.out) HOK.out)
  rw [← HM.out] at HB
  have y0 := B1.out 0 _ rfl
  have y1 := B1.out 1 _ rfl
  have y2 := B1.out 2 _ rfl
  have y3 := B1.out 3 _ rfl
  have y4 := B1.out 4 _ rfl
  have y5 := B1.out 5 _ rfl
  have y6 := B1.out 6 _ rfl
  go_wp2_with fail
  refine HB.out.mono ?_
  rintro e w2 ⟨f2, p, q, rfl, hp, hq⟩
  have F2 := Lib.hid (Gr.trans F1.out f2)
  have D2 := Lib.hid (D1.out.keep f2 (fun h => h))
  clear f2 F1 D1 HB y0 y1 y2 y3 y4 y5 y6 B1
  obtain ⟨w3, hw3⟩ : ∃ w3, w3 = (w2.alloc (.cells (m.arr p) 30)).alloc (.cells (m.arr q) 34) := ⟨_, rfl⟩
  have f3 : Gr w2 w3 := by rw [hw3]; exact ((Fr.refl _ _).alloc _).alloc _
  have ba : Bx w3 w2.heap.size (m.cells p) := by rw [hw3]; exact (Bx.new w2 (m.arr p) 30).keep ((Fr.refl (fun _ => False) _).alloc _) (fun h => h)
  have bb : Bx w3 (w2.heap.size + 1) (m.cells q) := by
    have := Bx.new (w2.alloc (.cells (m.arr p) 30)) (m.arr q) 34
    rw [World.size_alloc] at this
    rw [hw3]; exact this
  have F3 := Lib.hid (Gr.trans F2.out f3)
  have D3 := Lib.hid (D2.out.keep f3 (fun h => h))
  have HP := Lib.hid (hp.keep f3)
  have HQ := Lib.hid (hq.keep f3)
  have BA := Lib.hid ba
  have BB := Lib.hid bb
  have HW3 := Lib.hid (show w3 = (w2.alloc (.cells #[.int .i64 m.kind, .int .i64 m.node, .int .i64 m.walk, .bool m.high, .slice p.a1 m.nodes.length p.c1, .slice p.a2 m.ids.length p.c2, .slice p.a3 m.recs.length p.c3] 30)).alloc (.cells #[.int .i64 m.kind, .int .i64 m.node, .int .i64 m.walk, .bool m.high, .slice q.a1 m.nodes.length q.c1, .slice q.a2 m.ids.length q.c2, .slice q.a3 m.recs.length q.c3] 34) from hw3)
  clear hw3 f3 ba bb hp hq F2 D2
  go_upto_region 4 with fail
  rw [← HW3.out]
  clear HW3
  have y0 := BA.out 0 _ rfl
  have y1 := BA.out 1 _ rfl
  have y2 := BA.out 2 _ rfl
  have y3 := BA.out 3 _ rfl
  have y4 := BA.out 4 _ rfl
  have y5 := BA.out 5 _ rfl
  have y6 := BA.out 6 _ rfl
  have HE := Lib.hid (encode_any m p w3 HF.out HP.out)
  go_wp2_with fail
  refine HE.out.mono ?_
  rintro e w4 ⟨rfl, f4⟩
  have F4 := Lib.hid (Gr.trans F3.out f4)
  have D4 := Lib.hid (D3.out.keep f4 (fun h => h))
  clear f4 HE y0 y1 y2 y3 y4 y5 y6 HP HQ BA BB F3 D3
  by_cases hc : m.code = 0
  case neg =>
    go_wp2_with fail
    go_ret
    exact ⟨rfl, Fr.below (Below.refl _ _) F4.out (Nat.le_refl _) (fun k h => h.elim)⟩
  case pos =>
    obtain ⟨hmay, hlen⟩ := Msg.code_zero.1 hc
    have hout := Msg.out_enc hc
    have HS := Lib.hid (show m.out.data.toList = m.enc by rw [hout])
    have hsz : m.out.size = m.enc.length := by rw [hout, mk_size]
    have HC := Lib.hid (And.intro hmay hlen)
    obtain ⟨s, hs⟩ : ∃ s, s = m.out := ⟨_, rfl⟩
    rw [← hs] at HS hsz ⊢
    rw [hc]
    have h8 : 8 ≤ m.enc.length := by unfold Msg.enc; simp only [List.length_append, numB_length]; omega
    obtain ⟨n, hn⟩ : ∃ n, n = s.size := ⟨_, rfl⟩
    have HN := Lib.hid hsz
    have hsz1 : s.size ≤ m.enc.length := by omega
    have hsz2 : m.enc.length ≤ s.size := by omega
    have hn1 : s.size ≤ 4096 := by omega
    have hn0 : 8 ≤ s.size := by omega
    clear hc hout hmay hlen hs hsz hn
    have d0 := D4.out 0 _ rfl
    have d1 := D4.out 1 _ rfl
    obtain ⟨k, hk, hkn⟩ := rot1 s.size (by omega) hn1 sa
    cases cut
    case true =>
      have hx1 : s.extract 0 k = ⟨(m.enc.take k).toArray⟩ := by
        apply ByteArray.ext; apply Array.ext'
        rw [← HS.out]; simp
      have hx2 : s ++ ⟨#[120]⟩ = ⟨(m.enc ++ [120]).toArray⟩ := by
        apply ByteArray.ext; apply Array.ext'
        rw [← HS.out]; simp
      have HXX := Lib.hid (And.intro hx1 hx2)
      have D1 := Lib.hid (fun w => decode_any (m.enc.take k) (by simp; omega) w)
      have D2 := Lib.hid (fun w => decode_any (m.enc ++ [120]) (by simp; omega) w)
      have DD1 := Lib.hid (Msg.dec_cut HC.out.1 HF.out HC.out.2 k (by omega))
      have DD2 := Lib.hid (Msg.dec_more HC.out.1 HF.out 120 [])
      clear hx1 hx2 h8
      go_wp2_with fail
      rw [HXX.out.1]
      refine (D1.out _).mono ?_
      rintro e w5 ⟨f5, h5⟩
      rw [DD1.out] at h5
      subst h5
      have F5 := Lib.hid (Gr.trans F4.out f5)
      clear f5
      go_wp2_with fail
      rw [HXX.out.2]
      refine (D2.out _).mono ?_
      rintro e w6 ⟨f6, h6⟩
      rw [DD2.out] at h6
      subst h6
      have F6 := Lib.hid (Gr.trans (F5.out.alloc _) f6)
      clear f6
      go_wp2_with fail
      go_ret
      exact ⟨rfl, Fr.below (Below.refl _ _) (F6.out.alloc _) (Nat.le_refl _) (fun k h => h.elim)⟩
    case false =>
      obtain ⟨wB, cB, hcv, fB, hBs, hBc, hBz⟩ := bytes_new w4 s
      obtain ⟨v, hv, hv1⟩ : ∃ v : UInt8, sb % 256 = (v.toNat : Int) ∧ v = UInt8.ofNat (sb % 256).toNat := ⟨_, by rw [UInt8.toNat_ofNat']; omega, rfl⟩
      have bk := hBc k hkn
      have zk := hBz k hkn
      have FB := Lib.hid (Gr.trans F4.out fB)
      have d1B : wB.cell? ⟨W.heap.size + 1, 1, none⟩ = some (.int .i64 sb) := fB.cell d1 (fun h => h)
      have HB := Lib.hid (And.intro hBc hcv)
      have hvr := v.toNat_lt
      have hlt4 : w4.heap.size < wB.heap.size := hBs
      clear hv1 hBc hBz
      go_upto_region 14 with fail
      generalize hwC : World.setCell wB ⟨w4.heap.size, k, none⟩ (.int .u8 v.toNat) = wC
      have fC : Fr (fun q => q = w4.heap.size) wB wC := by rw [← hwC]; exact (Fr.refl (fun q => q = w4.heap.size) wB).setCell (p := ⟨w4.heap.size, k, none⟩) (.inl rfl) _
      have hcC : ∀ j, j < s.size → wC.cell? ⟨w4.heap.size, j, none⟩ = some (.int .u8 (((m.enc.set k v).getD j 0).toNat : Int)) := by
        intro j hj
        rw [set_getD _ _ _ _ (by omega), ← HS.out]
        by_cases hkj : k = j
        · subst hkj
          rw [if_pos rfl, ← hwC]; exact World.cell?_setCell_same _ _ _ (HB.out.1 k hj)
        · rw [if_neg hkj, ← hwC, ← HB.out.1 j hj]
          apply World.cell?_setCell_other
          intro h; cases h; exact hkj rfl
      have FC := Lib.hid (show Gr W wC from Fr.trans FB.out fC (fun q hq => .inr (by subst hq; exact F4.out.size)))
      obtain ⟨l, hl⟩ : ∃ l, l = m.enc.set k v := ⟨_, rfl⟩
      have hll : l.length = s.size := by rw [hl, List.length_set]; omega
      rw [← hl] at hcC
      have HCV := Lib.hid (fun w' (f : Gr wC w') => show (convert 47 9 (.slice (some ⟨w4.heap.size, 0, none⟩) s.size cB)).run Try.prog w' = .ok (.string ⟨l.toArray⟩) w' by
        rw [← hll]
        exact run_convert_bytes_back w' _ _ 5 _ cB l Try.underlying47 Try.underlying5 Try.underlying9 (fun j hj => by
          rw [Addr.add_lit, Nat.zero_add, f.cell (hcC j (by omega)) (fun h => h)]
          congr 2
          rw [List.getD_eq_getElem?_getD, List.getElem?_eq_getElem hj]; rfl))
      have hl4 : l.length ≤ 4096 := by omega
      clear hcC hwC fC HB bk zk d0 d1 d1B hcv fB hBs hll hl hk hv hlt4
      have hc1 := HCV.out wC (Fr.refl _ _)
      have HD := Lib.hid (decode_any l (by omega) wC)
      go_wp2_with fail
      refine HD.out.mono ?_
      clear hc1
      rintro e w5 ⟨f5, h5⟩
      have F5 := Lib.hid f5
      clear f5 HD
      cases hdec : Msg.dec l with
      | ref c =>
        rw [hdec] at h5
        subst h5
        have hc := Msg.dec_ref hdec
        clear hdec
        have HSA := Lib.hid (fun w => same_any Msg.zero Msg.zero MsgP.zero MsgP.zero w ⟨SlA.nil _, SlA.nil _, SlA.nil _⟩ ⟨SlA.nil _, SlA.nil _, SlA.nil _⟩)
        have hdd : decide (Msg.zero = Msg.zero) = true := by simp
        rw [hdd] at HSA
        clear hdd
        rcases hc with rfl | rfl | rfl
        all_goals
          go_wp2_with fail
          refine (HSA.out _).mono ?_
          rintro e w6 ⟨rfl, f6⟩
          have F6 := Lib.hid (Gr.trans (Gr.trans FC.out (F5.out.alloc _)) f6)
          clear f6
          go_wp2_with fail
          go_ret
          exact ⟨rfl, Fr.below (Below.refl _ _) F6.out (Nat.le_refl _) (fun k h => h.elim)⟩
      | ok m2 r2 =>
        rw [hdec] at h5
        obtain ⟨p2, rfl, ho⟩ := h5
        obtain ⟨he, hmay, hfit, _, _⟩ := Msg.dec_ok hdec
        have hc2 : m2.code = 0 := Msg.code_zero.2 ⟨hmay, by rw [← he]; exact hl4⟩
        have ho2 : m2.out = ⟨l.toArray⟩ := by rw [Msg.out_enc hc2, he]
        obtain ⟨w6, hw6⟩ : ∃ w6, w6 = w5.alloc (.cells #[.int .i64 m2.kind, .int .i64 m2.node, .int .i64 m2.walk, .bool m2.high, .slice p2.a1 m2.nodes.length p2.c1, .slice p2.a2 m2.ids.length p2.c2, .slice p2.a3 m2.recs.length p2.c3] 30) := ⟨_, rfl⟩
        have f6 : Gr w5 w6 := by rw [hw6]; exact (Fr.refl _ _).alloc _
        have BX := Lib.hid (show Bx w6 w5.heap.size (m2.cells p2) by rw [hw6]; exact Bx.new w5 (m2.arr p2) 30)
        have F6 := Lib.hid (Gr.trans F5.out f6)
        have HE := Lib.hid (encode_any m2 p2 w6 hfit (ho.at.keep f6))
        rw [hc2, ho2] at HE
        have HW6 := Lib.hid hw6
        clear hc2 ho2 hdec he hmay hfit hw6 f6 ho
        go_upto_region 17 with fail
        rw [← HW6.out]
        clear HW6
        have y0 := BX.out 0 _ rfl
        have y1 := BX.out 1 _ rfl
        have y2 := BX.out 2 _ rfl
        have y3 := BX.out 3 _ rfl
        have y4 := BX.out 4 _ rfl
        have y5 := BX.out 5 _ rfl
        have y6 := BX.out 6 _ rfl
        go_wp2_with fail
        refine HE.out.mono ?_
        rintro e w7 ⟨rfl, f7⟩
        have F7 := Lib.hid (Gr.trans F6.out f7)
        have hc7 := HCV.out w7 F7.out
        clear f7 y0 y1 y2 y3 y4 y5 y6
        go_wp2_with fail
        go_ret
        exact ⟨rfl, Fr.below (Below.refl _ _) (Gr.trans FC.out F7.out) (Nat.le_refl _) (fun k h => h.elim)⟩
end Go.Proofs.Ytkclgemkeifbaaa
