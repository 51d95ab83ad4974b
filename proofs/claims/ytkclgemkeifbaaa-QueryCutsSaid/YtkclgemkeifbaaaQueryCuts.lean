/-
  The walk of QueryCuts.
-/
import Derived.Test.YtkclgemkeifbaaaQSpeak
import Derived.Test.YtkclgemkeifbaaaHeadR
import Derived.Test.YtkclgemkeifbaaaQLaw
import Derived.Deep.CutBlock
import Derived.Deep.OwnRows
import Derived.Deep.CutRange
namespace Go.Proofs.Ytkclgemkeifbaaa
open Go.RowKit Go.Proofs

theorem bt_take (l : List UInt8) {k p : Nat} (h : p < k) : bt (l.take k) p = bt l p := by
  unfold bt
  rw [List.getD_eq_getElem?_getD, List.getD_eq_getElem?_getD, List.getElem?_take_of_lt h]
/-- a name that was cut short is not read -/
theorem rd_cuts {a b : List UInt8} {bound : Nat} (l m : List Lbl) (h : mayL (m ++ l) = true) (k : Nat) (hk : k ≤ a.length + lbSize l) : rd ((a ++ bytesL l ++ 0 :: b).take k) a.length bound m = .err 2 := by
  induction l generalizing a m with
  | nil => exact rd_short (by rw [List.length_take]; have : lbSize [] = 0 := rfl; omega)
  | cons x l ih =>
    by_cases hs : k ≤ a.length
    · exact rd_short (by rw [List.length_take]; omega)
    obtain ⟨hx, hz⟩ := (mayL_iff _).1 h
    have hx := hx x (by simp)
    have e : a ++ bytesL (x :: l) ++ 0 :: b = (a ++ lblB x) ++ bytesL l ++ 0 :: b := by unfold bytesL; simp
    have e2 : m ++ x :: l = (m ++ [x]) ++ l := by simp
    have hb : (UInt8.ofNat x.length).toNat = x.length := by rw [UInt8.toNat_ofNat']; omega
    have e3 : a ++ bytesL (x :: l) ++ 0 :: b = a ++ UInt8.ofNat x.length :: (x ++ (bytesL l ++ 0 :: b)) := by unfold bytesL lblB; simp
    have hc : lbSize (x :: l) = 1 + x.length + lbSize l := by unfold lbSize; simp
    have hL : (a ++ bytesL (x :: l) ++ 0 :: b).length = a.length + lbSize (x :: l) + (1 + b.length) := by
      rw [List.length_append, List.length_append, lbSize_bytes, List.length_cons]; omega
    have hlen : ((a ++ bytesL (x :: l) ++ 0 :: b).take k).length = k := by rw [List.length_take, hL]; omega
    have hg : bt ((a ++ bytesL (x :: l) ++ 0 :: b).take k) a.length = x.length := by rw [bt_take _ (by omega), e3, bt_app, hb]
    have hlt : a.length < ((a ++ bytesL (x :: l) ++ 0 :: b).take k).length := by omega
    by_cases hcut : k < a.length + 1 + x.length
    · exact rd_cut hlt (by omega) (by omega) (by omega)
    have hd : (((a ++ bytesL (x :: l) ++ 0 :: b).take k).drop (a.length + 1)).take x.length = x := by
      rw [List.drop_take, List.take_take, Nat.min_eq_left (by omega), e3, ← List.drop_drop, List.drop_left]; simp
    have hz2 : lbSize (m ++ x :: l) = lbSize (m ++ [x]) + lbSize l := by unfold lbSize; simp; omega
    have h4 : mayL (m ++ [x]) = true := by
      rw [mayL_iff]
      refine ⟨fun y hy => ((mayL_iff _).1 h).1 y ?_, by omega⟩
      rw [e2]; exact List.mem_append_left _ hy
    rw [rd_lbl hlt (by omega) (by omega) (by omega) (by rw [hg, hd]; exact h4), hg, hd]
    have := ih (a := a ++ lblB x) (m ++ [x]) (by rw [← e2]; exact h) (by rw [List.length_append, lblB_length]; omega)
    rw [← e] at this
    rw [show a.length + 1 + x.length = (a ++ lblB x).length by rw [List.length_append, lblB_length]; omega, this]
theorem askM_length (id more : Int) (l : List Lbl) (typ cls : Int) (t : List UInt8) : (askM id more l typ cls t).length = 17 + lbSize l + t.length := by
  unfold askM
  simp [hdMoreB_length, two_length, lbSize_bytes]; omega
/-- a question that was cut short behind its head has no question -/
theorem qQuest_cut {id more typ cls : Int} {l : List Lbl} (h : mayL l = true) (hi : 0 ≤ id ∧ id ≤ 65535) (hm : 0 ≤ more ∧ more ≤ 65535) {k : Nat} (h12 : 12 ≤ k) (hk : k < (askM id more l typ cls []).length) :
    hdRead ((askM id more l typ cls []).take k) = hdMore id more ∧ qQuest ((askM id more l typ cls []).take k) = none := by
  have hk0 := hk
  rw [askM_length] at hk
  have hr : hdRead ((askM id more l typ cls []).take k) = hdMore id more := by
    have : (askM id more l typ cls []).take k = hdMoreB id more ++ (bytesL l ++ 0 :: (two typ ++ (two cls ++ []))).take (k - 12) := by
      unfold askM
      rw [List.take_append, hdMoreB_length, List.take_of_length_le (by rw [hdMoreB_length]; omega)]
    rw [this]; exact hdRead_more hi hm _
  refine ⟨hr, ?_⟩
  have e : askM id more l typ cls [] = hdMoreB id more ++ bytesL l ++ 0 :: (two typ ++ (two cls ++ [])) := by unfold askM; simp
  have h1 := lbSize_bytes l
  have h3 : (hdMoreB id more).length = 12 := hdMoreB_length id more
  unfold qQuest
  rw [hr, if_pos (show countedB (hdMore id more).c0 (hdMore id more).c1 (hdMore id more).c2 = true from rfl)]
  by_cases hc : k ≤ 12 + lbSize l
  · have := rd_cuts (a := hdMoreB id more) (b := two typ ++ (two cls ++ [])) (bound := 12) l [] h k (by omega)
    rw [h3] at this
    rw [e, this]
  · have e4 : (askM id more l typ cls []).take k = hdMoreB id more ++ bytesL l ++ 0 :: (two typ ++ (two cls ++ [])).take (k - (13 + lbSize l)) := by
      rw [e, List.take_append, List.take_of_length_le (by rw [List.length_append]; omega)]
      congr 1
      rw [List.length_append, h1, h3, show k - (12 + lbSize l) = (k - (13 + lbSize l)) + 1 by omega, List.take_succ_cons]
    have := rd_bytes (a := hdMoreB id more) (b := (two typ ++ (two cls ++ [])).take (k - (13 + lbSize l))) (bound := 12) l [] h
    rw [h3] at this
    rw [e4, this]
    simp only
    rw [if_pos]
    rw [List.length_drop, List.length_append, List.length_append, List.length_cons, List.length_take, List.length_append, List.length_append, two_length, two_length]
    have h5 : ([] : List UInt8).length = 0 := rfl
    rw [askM_length] at hk0
    omega
theorem qOut_cut {id more typ cls : Int} {l : List Lbl} (h : mayL l = true) (hi : 0 ≤ id ∧ id ≤ 65535) (hm : 0 ≤ more ∧ more ≤ 65535) {k : Nat} (h12 : 12 ≤ k) (hk : k < (askM id more l typ cls []).length) :
    qOut ((askM id more l typ cls []).take k) = (hdMore id more, none, 1, 0) := by
  obtain ⟨hr, hq⟩ := qQuest_cut (typ := typ) (cls := cls) h hi hm h12 hk
  unfold qOut
  rw [if_neg (by rw [List.length_take]; omega), hr, hq, if_neg (by simp [hdMore, hdZero]), if_neg (by simp [hdMore, hdZero])]
/-- what a conversion of a text to bytes leaves -/
theorem bytes_lst (w : World) (s : List UInt8) : ∃ (wB : World) (c : Nat), (convert 9 47 (.string ⟨s.toArray⟩)).run Try.prog w = .ok (.slice (some ⟨w.heap.size, 0, none⟩) s.length c) wB ∧ Gr w wB ∧ w.heap.size < wB.heap.size ∧
    (∀ j, j < s.length → wB.cell? ⟨w.heap.size, j, none⟩ = some (.int .u8 (s.getD j 0).toNat)) ∧ (∀ j, j < s.length → wB.frozen? ⟨w.heap.size, j, none⟩ = false) := by
  have hz := mk_size s
  have hr := Lib.run_convert_string_bytes w _ _ 5 ⟨s.toArray⟩ Try.underlying9 Try.underlying47 Try.underlying5
  rw [hz] at hr
  refine ⟨_, _, hr, ⟨rfl, rfl, rfl, by rw [Lib.bytesWorld_size]; omega, fun k hk _ => Lib.bytesWorld_at_old w _ ⟨s.toArray⟩ k hk⟩, by rw [Lib.bytesWorld_size]; omega, fun j hj => Lib.bytesWorld_cell w _ ⟨s.toArray⟩ j (by omega), fun j hj => ?_⟩
  have hs : (ByteArray.mk s.toArray).size ≤ (Lib.bytesCells w 5 ⟨s.toArray⟩).size := by unfold Lib.bytesCells; simp; rw [hz]; omega
  simp only [World.frozen?, Lib.bytesWorld_at_new]
  simp
  omega
/-- the text with its count of additional records changed -/
theorem askM_more (id more typ cls : Int) (l : List Lbl) (J : List UInt8) (a b : UInt8) (h : two more = [a, b]) : (((askM id 0 l typ cls []).set 10 a).set 11 b) ++ J = askM id more l typ cls J := by
  unfold askM hdMoreB
  rw [h]
  simp [two, bigEnd]

set_option maxHeartbeats 4000000 in
set_option maxRecDepth 100000 in
theorem queryCuts_walk (x0 x1 x2 cut : Int) (bh : List UInt8) (more : Int) (W : World) (h0 : 0 ≤ x0 ∧ x0 ≤ 255) (h1 : 0 ≤ x1 ∧ x1 ≤ 255) (h2 : 0 ≤ x2 ∧ x2 ≤ 255) (hc : 0 ≤ cut ∧ cut ≤ 255) (hm : 0 ≤ more ∧ more ≤ 65535) :
    Calls Try.prog 9 #[.agg #[.int .u8 x0, .int .u8 x1, .int .u8 x2, .int .u8 cut, .string ⟨bh.toArray⟩, .int .u16 more]] W fun e w' => e = .returned (.bool true) ∧ Gr W w' := by
  obtain ⟨h00, h01⟩ := h0
  obtain ⟨h10, h11⟩ := h1
  obtain ⟨h20, h21⟩ := h2
  obtain ⟨hc0, hc1⟩ := hc
  obtain ⟨hm0, hm1⟩ := hm
  obtain ⟨w0, hw0⟩ : ∃ w0, w0 = W.alloc (.cells #[.int .u8 x0, .int .u8 x1, .int .u8 x2, .int .u8 cut, .string ⟨bh.toArray⟩, .int .u16 more] 85) := ⟨_, rfl⟩
  have F0 := Lib.hid (show Gr W w0 by rw [hw0]; exact (Fr.refl _ _).alloc _)
  have B0 := Lib.hid (show Bx w0 W.heap.size [.int .u8 x0, .int .u8 x1, .int .u8 x2, .int .u8 cut, .string ⟨bh.toArray⟩, .int .u16 more] by rw [hw0]; exact Bx.new W #[.int .u8 x0, .int .u8 x1, .int .u8 x2, .int .u8 cut, .string ⟨bh.toArray⟩, .int .u16 more] 85)
  have HW0 := Lib.hid hw0
  have S0 := Lib.hid (fun w => speaks23_any w)
  clear hw0
  go_enter Try.func9, Try.ntmps9
  go_wp2_with fail
  rw [← HW0.out]
  clear HW0
  refine (S0.out _).mono ?_
  rintro e w1 ⟨rfl, f1⟩
  have F1 := Lib.hid (Gr.trans F0.out f1)
  have B1 := Lib.hid (B0.out.keep f1 (fun h => h))
  have hs1 := F0.out.size
  clear F0 B0 S0
  have hlt1 : W.heap.size < w1.heap.size := lt_of_cell (B1.out 0 _ rfl)
  clear f1 hs1
  haveI : Nonempty (WC (Gr w1)) := ⟨⟨w1, Fr.refl _ _⟩⟩
  have y0 : ∀ z : WC (Gr w1), z.val.cell? ⟨W.heap.size, 0, none⟩ = some (.int .u8 x0) := fun z => z.ok.cell (B1.out 0 _ rfl) (fun h => h)
  have y1 : ∀ z : WC (Gr w1), z.val.cell? ⟨W.heap.size, 1, none⟩ = some (.int .u8 x1) := fun z => z.ok.cell (B1.out 1 _ rfl) (fun h => h)
  have y2 : ∀ z : WC (Gr w1), z.val.cell? ⟨W.heap.size, 2, none⟩ = some (.int .u8 x2) := fun z => z.ok.cell (B1.out 2 _ rfl) (fun h => h)
  have y3 : ∀ z : WC (Gr w1), z.val.cell? ⟨W.heap.size, 3, none⟩ = some (.int .u8 cut) := fun z => z.ok.cell (B1.out 3 _ rfl) (fun h => h)
  have y4 : ∀ z : WC (Gr w1), z.val.cell? ⟨W.heap.size, 4, none⟩ = some (.string ⟨bh.toArray⟩) := fun z => z.ok.cell (B1.out 4 _ rfl) (fun h => h)
  have y5 : ∀ z : WC (Gr w1), z.val.cell? ⟨W.heap.size, 5, none⟩ = some (.int .u16 more) := fun z => z.ok.cell (B1.out 5 _ rfl) (fun h => h)
  go_wp2_with fail
  refine wp_region_plan [8, 9] (Plan.seq (List.range 13) .done) (fun w' => ∃ z : WC (Gr w1), w' = z.val) (by kernel_rfl) (by kernel_rfl) (fun c a w d v h => by cases d <;> exact h) (fun c a w d v h => by cases d <;> exact h) ⟨⟨w1.drew, (Fr.refl _ _).drew⟩, rfl⟩ ?_
  simp only [Plan.seq, List.range, List.range.loop, List.foldr]
  repeat (refine wpV_q (by simp only [List.getElem?_toArray, List.getElem?_cons_succ, List.getElem?_cons_zero] <;> rfl) (by rfl) (by rfl) ?_; go_big_quiet_step (fail); refine wpQuiet_nil ?_)
  refine wpV_e (by simp only [List.getElem?_toArray, List.getElem?_cons_succ, List.getElem?_cons_zero] <;> rfl) (by rfl) ?_
  go_wp2_with fail
  refine ⟨⟨⟨_, (Fr.refl _ _).drew.alloc _⟩, rfl⟩, ?_⟩
  refine wpV_e (by simp only [List.getElem?_toArray, List.getElem?_cons_succ, List.getElem?_cons_zero] <;> rfl) (by rfl) ?_
  go_wp2_with fail
  obtain ⟨w2, hw2⟩ : ∃ w2, w2 = (w1.alloc (.cells #[.int .u8 x0, .int .u8 x1, .int .u8 x2] 83)).drew := ⟨_, rfl⟩
  rw [← hw2]
  have f2 : Gr w1 w2 := by rw [hw2]; exact ((Fr.refl _ _).alloc _).drew
  have D2 := Lib.hid (show Bx w2 w1.heap.size [.int .u8 x0, .int .u8 x1, .int .u8 x2] by rw [hw2]; exact (Bx.new w1 #[.int .u8 x0, .int .u8 x1, .int .u8 x2] 83).keep ((Fr.refl (fun _ => False) _).drew) (fun h => h))
  refine ⟨⟨⟨w2, f2⟩, rfl⟩, ?_⟩
  have F2 := Lib.hid (Gr.trans F1.out f2)
  repeat (refine wpV_q (by simp only [List.getElem?_toArray, List.getElem?_cons_succ, List.getElem?_cons_zero] <;> rfl) (by rfl) (by rfl) ?_; go_big_quiet_step (fail); refine wpQuiet_nil ?_)
  refine wpV_done ?_
  have hlt2 : w1.heap.size < w2.heap.size := lt_of_cell (D2.out 0 _ rfl)
  clear hw2 f2 y0 y1 y2 y3 y4 y5 B1 F1 this
  have DX : ∀ k : Nat, k < 3 → ∃ x : Int, 0 ≤ x ∧ x ≤ 255 ∧ w2.cell? ⟨w1.heap.size, k, none⟩ = some (.int .u8 x) := by
    intro k hk
    have : k = 0 ∨ k = 1 ∨ k = 2 := by omega
    rcases this with rfl | rfl | rfl
    · exact ⟨x0, h00, h01, D2.out 0 _ rfl⟩
    · exact ⟨x1, h10, h11, D2.out 1 _ rfl⟩
    · exact ⟨x2, h20, h21, D2.out 2 _ rfl⟩
  have HDX := Lib.hid DX
  clear DX D2
  go_wp2_with fail
  go_loopw [7, 8] (fun v iv wr => ∃ (k : Nat) (nm : List Lbl), iv = .int .i64 k ∧ k ≤ 3 ∧ nm.length = k ∧ (∀ x ∈ nm, 1 ≤ x.length ∧ x.length ≤ 20) ∧ wr.ownsRow w2.heap.size 9 1 v nm.length (strVs nm) ∧ Gr w2 wr) (fun _ iv _ => 3 - (intOf iv).toNat)
  case atStart => exact ⟨0, [], rfl, by omega, rfl, by simp, World.ownsRow_nil _ _ _ _, Fr.refl _ _⟩
  case round =>
    obtain ⟨k, nm, rfl, hk, hnl, hnx, ho, fr⟩ := hrel
    have HO := Lib.hid ho
    have FR := Lib.hid fr
    have HN := Lib.hid hnx
    have hsz := fr.size
    clear ho fr hnx
    by_cases hlt : k < 3
    · obtain ⟨x, hx0, hx1, hcx⟩ := HDX.out k hlt
      have hcx' := FR.out.cell hcx (fun h => h)
      have hlt1' : w1.heap.size < w2.heap.size := hlt2
      obtain ⟨n, hn⟩ : ∃ n : Nat, 1 + x % 20 = (n : Int) := ⟨(1 + x % 20).toNat, by omega⟩
      have hn1 : 1 ≤ n := by omega
      have hn2 : n ≤ 20 := by omega
      obtain ⟨c, hcc⟩ : ∃ c : UInt8, 97 + x % 3 = (c.toNat : Int) := ⟨UInt8.ofNat (97 + x % 3).toNat, by rw [UInt8.toNat_ofNat']; omega⟩
      have hmk := run_make_row' (P := Try.prog) 47 5 (.int .u8 0) 1 Try.underlying47 (by kernel_rfl) rfl .i64 .i64 n (by omega) (by omega)
      go_wp2_with fail
      generalize hwm : wr.alloc (.cells (madeCells #[.int .u8 0] n) 5) = wm
      have R0 := Lib.hid (show wm.rowIs wr.heap.size 5 n (fun _ => .int .u8 0) by rw [← hwm]; exact World.rowIs_made _ _ _ _)
      have fm : Gr wr wm := by rw [← hwm]; exact (Fr.refl _ _).alloc _
      have FM := Lib.hid (Gr.trans FR.out fm)
      have OM := Lib.hid (own_fr HO.out fm (fun _ _ h => h))
      have hq : ∀ q, u7.ownBlock = some q → q < wr.heap.size := fun q h => (HO.out.lt q h).2
      have hsz1 : w2.heap.size ≤ wr.heap.size := hsz
      obtain ⟨b, hb⟩ : ∃ b, b = wr.heap.size := ⟨_, rfl⟩
      rw [← hb] at R0 hq hsz1 ⊢
      have HQ := Lib.hid hq
      have HCX := Lib.hid hcx
      clear hb hwm hmk fm hcx hcx' FR HO hq hsz
      have hlm : b < wm.heap.size := R0.out.lt
      go_loopw [10] (fun jv wx => ∃ j : Nat, jv = .int .i64 j ∧ j ≤ n ∧ wx.rowIs b 5 n (fun i => if i < j then .int .u8 c.toNat else .int .u8 0) ∧ Fr (fun q => q = b) wm wx) (fun jv _ => n - (intOf jv).toNat)
      case atStart => exact ⟨0, rfl, Nat.zero_le _, R0.out.congr (fun i _ => by rw [if_neg (by omega)]), Fr.refl _ _⟩
      case round =>
        obtain ⟨j, rfl, hj, hrow, fx⟩ := hrel
        have RX := Lib.hid hrow
        have FX := Lib.hid (show Gr w2 wr from Fr.trans FM.out fx (fun q h => .inr (by omega)))
        have GX := Lib.hid fx
        clear hrow fx
        by_cases hjn : j < n
        · obtain ⟨cz, hz⟩ : ∃ z, wr.cell? ⟨b, j, none⟩ = some z := ⟨_, RX.out.cell hjn⟩
          have hfz := RX.out.frozen j
          have hcj := FX.out.cell HCX.out (fun h => h)
          go_wp2_with fail
          refine ⟨⟨j + 1, by go_num, by omega, (RX.out.set j _).congr (fun i hi => ?_), GX.out.setCell (p := ⟨b, j, none⟩) (.inl rfl) _⟩, by simp [intOf]; omega⟩
          by_cases h : i = j
          · rw [if_pos h, if_pos (by omega)]
          · by_cases h2 : i < j
            · rw [if_neg h, if_pos h2, if_pos (by omega)]
            · rw [if_neg h, if_neg h2, if_neg (by omega)]
        · obtain ⟨y, hy⟩ : ∃ y, y = List.replicate n c := ⟨_, rfl⟩
          have hyl : y.length = n := by rw [hy, List.length_replicate]
          have hcv : (convert 47 9 (.slice (some ⟨b, 0, none⟩) n n)).run Try.prog wr = .ok (.string ⟨y.toArray⟩) wr := by
            have := run_convert_bytes_back (P := Try.prog) wr 47 9 5 ⟨b, 0, none⟩ n y Try.underlying47 Try.underlying5 Try.underlying9 (fun i hi => by
              rw [Addr.add_lit, Nat.zero_add, RX.out.cell (by omega), if_pos (by omega)]
              congr 2
              subst hy
              rw [List.getElem_replicate])
            rw [hyl] at this
            exact this
          have ow := own_fr OM.out GX.out (fun q h h' => by have := HQ.out q h; omega)
          have O2 := Lib.hid (ow.alloc (.cells #[strV y] 9))
          have N2 : Hid (SlA (wr.alloc (.cells #[strV y] 9)) (some ⟨wr.heap.size, 0, none⟩) [y].length 1 (strVs [y])) := Lib.hid (sla_one _ _ (by rw [World.cell?_alloc_at _ _ _ _ rfl]; rfl))
          have F3 : Hid (Gr w2 (wr.alloc (.cells #[strV y] 9))) := Lib.hid (Gr.trans FX.out ((Fr.refl _ _).alloc _))
          have hsz3 := FX.out.size
          clear ow hy RX GX OM R0 FM HCX FX
          go_wp2_with (at_builtin; refine wpList_strs_app rfl _ _ rfl O2.out N2.out rfl rfl rfl (by simp; omega) (by simp; omega) ?_)
          intro v3 w3 ho3 hg3
          have f3 : Gr w2 w3 := Fr.trans F3.out ((Fr.refl (fun k => Value.ownBlock _ = some k) _).grown hg3 (fun q hq => .inl hq)) (fun k hk => .inr (O2.out.lt k hk).1)
          have F4 := Lib.hid f3
          have O4 := Lib.hid ho3
          clear f3 hg3 ho3 O2 N2 F3 hcv
          go_wp2_with fail
          have hl1 : (nm ++ [y]).length = k + 1 := by simp; omega
          refine ⟨⟨k + 1, nm ++ [y], by go_num, by omega, hl1, ?_, ?_, F4.out⟩, by simp [intOf]; omega⟩
          · intro z hz
            rcases List.mem_append.1 hz with h | h
            · exact HN.out z h
            · rw [List.mem_singleton.1 h]; omega
          · rw [hl1, show strVs (nm ++ [y]) = List.map strV nm ++ [strV y] from List.map_append]; exact O4.out
    · have hk3 : k = 3 := by omega
      subst hk3
      have hall : nm.all lblOk = true := List.all_eq_true.2 (fun x hx => by have := HN.out x hx; rw [lblOk_iff]; omega)
      have hsz63 : lbSize nm ≤ 63 := by
        rcases nm with _ | ⟨a, _ | ⟨b, _ | ⟨c, _ | ⟨d, r⟩⟩⟩⟩ <;> simp at hnl
        have h1 := HN.out a (by simp)
        have h2 := HN.out b (by simp)
        have h3 := HN.out c (by simp)
        simp only [lbSize, List.map_cons, List.map_nil, List.sum_cons, List.sum_nil]
        omega
      have hmay : mayL nm = true := (mayL_iff nm).2 ⟨fun x hx => by have := HN.out x hx; omega, by omega⟩
      obtain ⟨av, cv, rfl, sv, -⟩ := SlA.of_own HO.out
      have SV := Lib.hid sv
      have C1 := Lib.hid (qAsk_any 1 av cv nm 33 wr sv (by decide) (by decide))
      unfold AskOut at C1
      rw [hmay] at C1
      simp only [if_true] at C1
      rw [askB_eq] at C1
      have hL := askM_length 1 0 nm 33 1 []
      obtain ⟨s, hs⟩ : ∃ s, s = askM 1 0 nm 33 1 [] := ⟨_, rfl⟩
      rw [← hs] at C1 hL
      obtain ⟨K, hK, hK1, hK2⟩ : ∃ K : Nat, 12 + cut % ((s.length : Int) - 12) = (K : Int) ∧ 12 ≤ K ∧ K < s.length := by
        simp only [List.length_nil] at hL
        have h1 := Int.emod_nonneg cut (show (s.length : Int) - 12 ≠ 0 by omega)
        have h2 := Int.emod_lt_of_pos cut (show 0 < (s.length : Int) - 12 by omega)
        exact ⟨(12 + cut % ((s.length : Int) - 12)).toNat, by omega, by omega, by omega⟩
      have CP1 := Lib.hid (fun w => qParse_any (s.take K) w (by rw [List.length_take]; simp only [List.length_nil] at hL; omega))
      have hq1 : qOut (s.take K) = (hdMore 1 0, none, 1, 0) := by
        rw [hs] at hK2 ⊢
        exact qOut_cut hmay (by decide) (by decide) hK1 hK2
      rw [hq1] at CP1
      have hx1 : (⟨s.toArray⟩ : ByteArray).extract 0 K = ⟨(s.take K).toArray⟩ := by rw [mk_extract, List.drop_zero]
      have zs := mk_size s
      simp only [List.length_nil] at hL
      have hLs : s.length ≤ 80 := by omega
      have hLs2 : 17 ≤ s.length := by omega
      have HS := Lib.hid hs
      have HMAY := Lib.hid hmay
      have HK := Lib.hid hK
      clear hq1 hL hs hmay hall sv HO HDX HN hlt hk hnl hK
      go_upto_region 14 with fail
      go_wp2_with fail
      refine C1.out.mono ?_
      rintro e w3 ⟨rfl, f3⟩
      have F3 := Lib.hid (Gr.trans FR.out f3)
      have G3 := Lib.hid f3
      clear f3 C1 FR
      have hK := HK.out
      clear HK
      go_wp2_with fail
      refine (CP1.out _).mono ?_
      rintro e w4 ⟨f4, rfl⟩
      have F4 := Lib.hid (Gr.trans F3.out f4)
      have G4 := Lib.hid (Gr.trans G3.out f4)
      clear f4 CP1 F3 G3 hx1
      simp only [qCells, hdMore, hdZero]
      go_upto_region 19 with fail
      generalize hw5 : World.alloc w4 _ = w5
      have f5 : Gr w4 w5 := by rw [← hw5]; exact (Fr.refl _ _).alloc _
      have F5 := Lib.hid (Gr.trans F4.out f5)
      have G5 := Lib.hid (Gr.trans G4.out f5)
      clear f5 hw5 F4 G4
      obtain ⟨mm, hb1, hb2, hite, hmin⟩ : ∃ m : Nat, m ≤ bh.length ∧ m ≤ 30 ∧ (if (30 : Int) < (bh.length : Int) then (30 : Int) else (bh.length : Int)) = (m : Int) ∧ min (bh.length : Int) 30 = (m : Int) := ⟨min bh.length 30, by omega, by omega, by split <;> omega, by omega⟩
      obtain ⟨J, hJ⟩ : ∃ J, J = bh.take mm := ⟨_, rfl⟩
      have hx2 : (⟨bh.toArray⟩ : ByteArray).extract 0 mm = ⟨J.toArray⟩ := by rw [mk_extract, List.drop_zero, hJ]
      have zb := mk_size bh
      have hJl : J.length ≤ 30 := by rw [hJ, List.length_take]; omega
      clear hJ
      obtain ⟨wB, cB, hcv, fB, hBs, hBc, hBz⟩ := bytes_lst w5 s
      have bk0 := hBc 10 (by omega)
      have zk0 := hBz 10 (by omega)
      have bk1 := hBc 11 (by omega)
      have zk1 := hBz 11 (by omega)
      have FB := Lib.hid (Gr.trans F5.out fB)
      have GB := Lib.hid (Gr.trans G5.out fB)
      have HBC := Lib.hid hBc
      have hz5 := F5.out.size
      have hz6 := G5.out.size
      clear hBc hBz fB F5 G5
      go_upto_region 24 with fail
      obtain ⟨va, hva, hva2⟩ : ∃ v : UInt8, more / 256 = (v.toNat : Int) ∧ v = UInt8.ofNat (more.toNat / 256) := ⟨_, by rw [UInt8.toNat_ofNat']; omega, rfl⟩
      obtain ⟨vb, hvb, hvb2⟩ : ∃ v : UInt8, more % 256 = (v.toNat : Int) ∧ v = UInt8.ofNat more.toNat := ⟨_, by rw [UInt8.toNat_ofNat']; omega, rfl⟩
      rw [hva, hvb]
      generalize hwC : World.setCell (World.setCell wB ⟨w5.heap.size, 10, none⟩ (.int .u8 va.toNat)) ⟨w5.heap.size, 11, none⟩ (.int .u8 vb.toNat) = wC
      have fC : Fr (fun q => q = w5.heap.size) wB wC := by rw [← hwC]; exact ((Fr.refl (fun q => q = w5.heap.size) wB).setCell (p := ⟨w5.heap.size, 10, none⟩) (.inl rfl) _).setCell (p := ⟨w5.heap.size, 11, none⟩) (.inl rfl) _
      have hcC : ∀ j (hj : j < ((s.set 10 va).set 11 vb).length), wC.cell? ⟨w5.heap.size, j, none⟩ = some (.int .u8 ((((s.set 10 va).set 11 vb)[j]).toNat : Int)) := by
        intro j hj
        have hjs : j < s.length := by simpa using hj
        rw [← hwC]
        by_cases h11 : 11 = j
        · subst h11
          rw [List.getElem_set_self]
          exact World.cell?_setCell_same _ _ _ (by rw [World.cell?_setCell_other _ _ _ _ (by intro h; cases h)]; exact bk1)
        · rw [World.cell?_setCell_other _ _ _ _ (by intro h; cases h; exact h11 rfl), List.getElem_set_ne h11]
          by_cases h10 : 10 = j
          · subst h10
            rw [List.getElem_set_self]
            exact World.cell?_setCell_same _ _ _ bk0
          · rw [World.cell?_setCell_other _ _ _ _ (by intro h; cases h; exact h10 rfl), List.getElem_set_ne h10, HBC.out j hjs]
            congr 2
            rw [List.getD_eq_getElem?_getD, List.getElem?_eq_getElem hjs]; rfl
      have hl2 : ((s.set 10 va).set 11 vb).length = s.length := by simp
      have FC := Lib.hid (show Gr w2 wC from Fr.trans FB.out fC (fun q hq => .inr (by omega)))
      have GC := Lib.hid (show Gr wr wC from Fr.trans GB.out fC (fun q hq => .inr (by omega)))
      have HCV : (convert 47 9 (.slice (some ⟨w5.heap.size, 0, none⟩) s.length cB)).run Try.prog wC = .ok (.string ⟨((s.set 10 va).set 11 vb).toArray⟩) wC := by
        rw [← hl2]
        exact run_convert_bytes_back wC _ _ 5 _ cB _ Try.underlying47 Try.underlying5 Try.underlying9 (fun j hj => by
          rw [Addr.add_lit, Nat.zero_add]; exact hcC j hj)
      obtain ⟨s2, hs2⟩ : ∃ s2, s2 = (s.set 10 va).set 11 vb := ⟨_, rfl⟩
      rw [← hs2] at HCV hl2
      have h2 : two more = [va, vb] := by
        rw [hva2, hvb2]; simp [two, bigEnd]
      have hT : s2 ++ J = askM 1 more nm 33 1 J := by rw [hs2, HS.out]; exact askM_more _ _ _ _ _ _ _ _ h2
      obtain ⟨T, hT2⟩ : ∃ T, T = s2 ++ J := ⟨_, rfl⟩
      have hx3 : (⟨s2.toArray⟩ : ByteArray) ++ ⟨J.toArray⟩ = ⟨T.toArray⟩ := by rw [hT2]; apply ByteArray.ext; simp
      rw [← hT2] at hT
      have CP2 := Lib.hid (fun w => qParse_any T w (by rw [hT2, List.length_append]; omega))
      rw [hT, qOut_ask HMAY.out (by decide) ⟨hm0, hm1⟩ (by decide) (by decide), ← hT, if_pos (show ((33 : Int) = 1 ∨ (33 : Int) = 33) ∧ (1 : Int) = 1 by decide)] at CP2
      have z2 := mk_size s2
      have zJ := mk_size J
      have hs2l : s2.length ≤ 80 := by omega
      clear hT hT2 hs2 h2 hcC fC hwC bk0 bk1 zk0 zk1 HBC hcv hva hva2 hvb hvb2 FB GB hx2 hite hmin HS hlt2 hlt1
      by_cases hb : J ≠ [] ∧ more = 0
      · rw [if_pos hb] at CP2
        obtain ⟨hJ0, rfl⟩ := hb
        rcases J with _ | ⟨x, r⟩
        · exact absurd rfl hJ0
        clear hJ0
        go_wp2_with fail
        refine (CP2.out _).mono ?_
        rintro e w6 ⟨f6, rfl⟩
        have F6 := Lib.hid (Gr.trans FC.out f6)
        clear f6 CP2 FC GC HCV hx3
        simp only [qCells, hdMore, hdZero]
        go_upto_region 25 with fail
        generalize hw7 : World.alloc w6 _ = w7
        have F7 := Lib.hid (show Gr w2 w7 by rw [← hw7]; exact Gr.trans F6.out ((Fr.refl _ _).alloc _))
        have q13 : w7.cell? ⟨w6.heap.size, 13, none⟩ = some (.bool false) := by rw [← hw7, World.cell?_alloc_at _ _ _ _ rfl]; rfl
        clear hw7 F6
        go_wp2_with fail
        go_ret
        exact ⟨rfl, Gr.trans F2.out F7.out⟩
      · rw [if_neg hb] at CP2
        go_wp2_with fail
        refine (CP2.out _).mono ?_
        rintro e w6 ⟨f6, v, o6, a2, cap2, rfl, rfl⟩
        have F6 := Lib.hid (Gr.trans FC.out f6)
        have G6 := Lib.hid (Gr.trans GC.out f6)
        obtain ⟨a', cap', ev, s6, -⟩ := SlA.of_own o6
        cases ev
        clear f6 CP2 FC GC HCV hx3 o6
        simp only [qCells, hdMore, hdZero]
        go_upto_region 25 with fail
        generalize hw7 : World.alloc w6 _ = w7
        have f7 : Gr w6 w7 := by rw [← hw7]; exact (Fr.refl _ _).alloc _
        have F7 := Lib.hid (Gr.trans F6.out f7)
        have q13 : w7.cell? ⟨w6.heap.size, 13, none⟩ = some (.bool true) := by rw [← hw7, World.cell?_alloc_at _ _ _ _ rfl]; rfl
        have q14 : w7.cell? ⟨w6.heap.size, 14, none⟩ = some (.slice a2 nm.length cap2) := by rw [← hw7, World.cell?_alloc_at _ _ _ _ rfl]; rfl
        have CS := Lib.hid (refSame21_any a2 cap2 nm av cv nm w7 (s6.keep f7 (fun _ _ h => h)) (SV.out.keep (Gr.trans G6.out f7) (fun _ _ h => h)))
        rw [show decide (nm = nm) = true from decide_eq_true rfl] at CS
        clear hw7 f7 F6 G6 s6 SV
        have FIN : ∀ w, Gr w7 w → Gr W w := fun w f => Gr.trans F2.out (Gr.trans F7.out f)
        have HFIN := Lib.hid FIN
        clear FIN F7 F2
        rcases J with _ | ⟨x, r⟩
        · clear hb
          go_wp2_with fail
          refine CS.out.mono ?_
          rintro e w8 ⟨rfl, f8⟩
          have F8 := Lib.hid (HFIN.out _ f8)
          clear f8
          go_wp2_with fail
          go_ret
          exact ⟨rfl, F8.out⟩
        · have hmz : more ≠ 0 := fun h => hb ⟨by simp, h⟩
          have hmz2 : (more == 0) = false := by simpa using hmz
          clear hb hmz
          go_wp2_with fail
          refine CS.out.mono ?_
          rintro e w8 ⟨rfl, f8⟩
          have F8 := Lib.hid (HFIN.out _ f8)
          clear f8
          go_wp2_with fail
          go_ret
          exact ⟨rfl, F8.out⟩
end Go.Proofs.Ytkclgemkeifbaaa
