/-
  Package reply: Build.
-/
import Derived.Test.YtkclgemkeifbaaaRepQues
import Derived.Test.YtkclgemkeifbaaaRegionZ
namespace Go.Proofs.Ytkclgemkeifbaaa
open Go.RowKit Go.Proofs

/-- a row of records: each with the place of its target -/
abbrev RowR := RRec × Option Addr × Nat
def RowR.cells (x : RowR) : List Value := x.1.cells x.2.1 x.2.2
theorem RowR.cells_length (x : RowR) : (RowR.cells x).length = 10 := rfl
structure RowsAt (w : World) (a : Option Addr) (cap : Nat) (L : List RowR) : Prop where
  row : SlA w a L.length cap (L.flatMap RowR.cells)
  tgt : ∀ x ∈ L, SlA w x.2.1 x.1.target.length x.2.2 (strVs x.1.target)
  fits : ∀ x ∈ L, x.1.Fits
theorem RowsAt.keep {w w' : World} {a : Option Addr} {cap : Nat} {L : List RowR} (h : RowsAt w a cap L) (f : Gr w w') : RowsAt w' a cap L :=
  ⟨h.row.keep f (fun _ _ h => h), fun x hx => (h.tgt x hx).keep f (fun _ _ h => h), h.fits⟩
theorem RowsAt.at {w : World} {a : Option Addr} {cap : Nat} {L : List RowR} (h : RowsAt w a cap L) (k : Nat) (hk : k < L.length) : ∃ b o, a = some ⟨b, o, none⟩ ∧ w.rangeAt b (o + k * 10) (L[k].1.cells L[k].2.1 L[k].2.2) := by
  obtain ⟨b, o, e, hc⟩ := SlA.elem (f := RowR.cells) RowR.cells_length (by decide) h.row k hk
  exact ⟨b, o, e, fun j v hv => hc j v hv⟩
theorem Try.zeroRRec : (Try.prog.info? 110).map (fun i => (i.zero, i.size, i.bytes)) = some (some (.agg #[.int .u16 0, .int .u32 0, .int .u8 0, .int .u8 0, .int .u8 0, .int .u8 0, .int .u16 0, .int .u16 0, .int .u16 0, .slice none 0 0]), 10, 48) := by kernel_rfl

theorem counted24_any (b : Bool) (w : World) : Calls Try.prog 73 #[.bool b] w fun e w' => e = .returned (.int .u16 (if b = true then 1 else 0)) ∧ w = w' := by
  cases b
  · go_enter Try.func73, Try.ntmps73
    go_wp2_with fail
    go_ret
    exact ⟨rfl, rfl⟩
  · go_enter Try.func73, Try.ntmps73
    go_wp2_with fail
    go_ret
    exact ⟨rfl, rfl⟩

def BuildEnd (o : List UInt8 × Nat × Int) (w : World) (e : Ending) (w' : World) : Prop := e = .returned (.tuple #[.string ⟨o.1.toArray⟩, .int .i64 o.2.2]) ∧ Gr w w'

set_option maxHeartbeats 4000000 in
set_option maxRecDepth 100000 in
theorem build_any (h : Hd) (hf : h.Fits) (asked : Bool) (a : Option Addr) (cap : Nat) (name : List Lbl) (t c code : Int) (b : Option Addr) (capl : Nat) (L : List RowR) (W : World) (hn : SlA W a name.length cap (strVs name)) (ht : 0 ≤ t ∧ t ≤ 65535) (hc : 0 ≤ c ∧ c ≤ 65535)
    (hcode : -9223372036854775808 ≤ code ∧ code ≤ 9223372036854775807) (hL : RowsAt W b capl L) :
    Calls Try.prog 39 #[.agg (qCells h asked a name.length cap t c), .int .i64 code, .slice b L.length capl] W (BuildEnd (bldOut h asked name t c code (L.map (·.1))) W) := by
  have hle := hL.row.le
  have hmx := hL.row.max
  obtain ⟨w1, hw1⟩ : ∃ w1, w1 = W.alloc (.cells (qCells h asked a name.length cap t c) 67) := ⟨_, rfl⟩
  have f1 : Gr W w1 := by rw [hw1]; exact (Fr.refl _ _).alloc _
  have hb1 : w1.heap[W.heap.size]? = some (.cells (qCells h asked a name.length cap t c) 67 (0, 0)) := by rw [hw1, heap_alloc_if, if_pos rfl]
  have hlt : W.heap.size < w1.heap.size := by rw [hw1]; simp
  have BX := Lib.hid (Bx.of_block hb1)
  have HB := Lib.hid hb1
  have F1 := Lib.hid f1
  have HW1 := Lib.hid hw1
  have RW := Lib.hid (hL.keep f1)
  have CQ := Lib.hid (ques_any h asked a cap name t c w1 (hn.keep f1 (fun _ _ h => h)) ht hc)
  have hop := hf.op
  have HF := Lib.hid hf
  have y2 := BX.out 2 _ rfl
  have y13 := BX.out 13 _ rfl
  obtain ⟨O, hO⟩ : ∃ O, O = bldOut h asked name t c code (L.map (·.1)) := ⟨_, rfl⟩
  have HO := Lib.hid hO
  rw [← hO]
  clear hO f1 hb1 hn hw1 hL hf
  obtain ⟨i0, hi1, hi2, hi3, hi4⟩ := info_parts Try.zeroRRec
  unfold BuildEnd
  by_cases g1 : code < 0 ∨ 15 < code ∨ 15 < h.op
  · have hO : O = ([], 0, 11) := by rw [HO.out]; unfold bldOut; rw [if_pos g1]
    subst hO
    clear HO RW CQ
    by_cases g2 : code < 0
    · go_enter Try.func39, Try.ntmps39
      go_upto_region 1 with fail
      rw [← HW1.out]
      clear HW1
      go_wp2_with fail
      go_ret2
      exact ⟨rfl, F1.out⟩
    · by_cases g3 : 15 < code
      · go_enter Try.func39, Try.ntmps39
        go_upto_region 1 with fail
        rw [← HW1.out]
        clear HW1
        go_wp2_with fail
        go_ret2
        exact ⟨rfl, F1.out⟩
      · have g4 : 15 < h.op := by omega
        clear g1
        go_enter Try.func39, Try.ntmps39
        go_upto_region 1 with fail
        rw [← HW1.out]
        clear HW1
        go_wp2_with fail
        go_ret2
        exact ⟨rfl, F1.out⟩
  have g2 : 0 ≤ code := by omega
  have g3 : code ≤ 15 := by omega
  have g4 : h.op ≤ 15 := by omega
  by_cases k1 : asked = false ∧ L.map (·.1) ≠ []
  · have hO : O = ([], 0, 8) := by rw [HO.out]; unfold bldOut; rw [if_neg g1, if_pos k1]
    subst hO
    obtain ⟨rfl, k2⟩ := k1
    have k3 : 0 < L.length := by
      rcases L with _ | ⟨x, L⟩
      · simp at k2
      · simp
    clear HO RW CQ g1 k2
    go_enter Try.func39, Try.ntmps39
    go_upto_region 1 with fail
    rw [← HW1.out]
    clear HW1
    go_wp2_with fail
    go_ret2
    exact ⟨rfl, F1.out⟩
  have HO1 : Hid (quesCode asked name ≠ 0 → O = ([], 0, 9)) := Lib.hid (fun hq => by rw [HO.out]; unfold bldOut; rw [if_neg g1, if_neg k1, if_pos hq])
  have HO2 : Hid (quesCode asked name = 0 → ∀ r, rbad (L.map (·.1)) = some r → O = ([], 0, r.code)) := Lib.hid (fun hq r hr => by rw [HO.out]; unfold bldOut; rw [if_neg g1, if_neg k1, if_neg (by simpa using hq), hr])
  have HO3 : Hid (quesCode asked name = 0 → rbad (L.map (·.1)) = none → O = ((bldHd h asked code (bldFold (quesB asked name t c) (L.map (·.1))).n (bldFold (quesB asked name t c) (L.map (·.1))).cut).bytes ++ (bldFold (quesB asked name t c) (L.map (·.1))).body, (bldFold (quesB asked name t c) (L.map (·.1))).n, 0)) :=
    Lib.hid (fun hq hr => by rw [HO.out]; unfold bldOut; rw [if_neg g1, if_neg k1, if_neg (by simpa using hq), hr])
  have K1 : Hid (asked = true ∨ L.length = 0) := Lib.hid (by
    cases asked
    · right
      apply Classical.byContradiction
      intro hz
      apply k1
      refine ⟨rfl, ?_⟩
      intro hm
      apply hz
      have := congrArg List.length hm
      simpa using this
    · exact .inl rfl)
  clear HO g1 k1
  unfold QuesEnd at CQ
  have hqc : quesCode asked name = 0 ∨ quesCode asked name = 9 := by unfold quesCode; split <;> simp
  have hql := quesB_le asked name t c
  generalize quesCode asked name = qc at *
  generalize quesB asked name t c = qb at *
  go_enter Try.func39, Try.ntmps39
  go_upto_region 1 with fail
  rw [← HW1.out]
  clear HW1
  go_upto_region 3 with fail
  go_cut [30] from 30 to 38 (fun v wx => v = .bool false ∧ w1 = wx)
  case first =>
    rcases K1.out with hk | hk
    · subst hk
      go_wp2_with fail
      go_meet
      exact ⟨rfl, rfl⟩
    · by_cases ha : asked = true
      · subst ha
        clear hk
        go_wp2_with fail
        go_meet
        exact ⟨rfl, rfl⟩
      · have ha : asked = false := by simpa using ha
        subst ha
        have hk0 : ¬ ((0 : Int) < (L.length : Int)) := by omega
        have hk1 : ¬ (0 < L.length) := by omega
        clear hk
        go_wp2_with fail
        go_meet
        exact ⟨rfl, rfl⟩
  case rest =>
    obtain ⟨rfl, rfl⟩ := hcut
    go_upto_region 5 with fail
    refine wp_region_lit ?_
    refine wpList_load_query HB.out (by rfl) _ (by rfl) (by rfl) ?_
    go_wp2_with fail
    refine CQ.out.mono ?_
    rintro e w2 ⟨rfl, f2⟩
    have RW2 := Lib.hid (RW.out.keep f2)
    have F2 := Lib.hid (Gr.trans F1.out f2)
    have BX2 := Lib.hid (BX.out.keep f2 (fun h => h))
    have hs2 := f2.size
    clear f2 F1 RW CQ y2 y13 HB BX
    by_cases hq9 : qc = 9
    · subst hq9
      clear hqc
      have hO : O = ([], 0, 9) := HO1.out (by decide)
      subst hO
      clear HO1 HO2 HO3
      go_wp2_with fail
      go_ret2
      exact ⟨rfl, F2.out⟩
    have hq0 : qc = 0 := by omega
    subst hq0
    clear hqc hq9 HO1
    go_wp2_with fail
    go_loopw [8, 10, 11, 49] (fun bv nv cv iv wr => ∃ (k : Nat) (st : BSt), iv = .int .i64 k ∧ k ≤ L.length ∧ bv = .string ⟨st.body.toArray⟩ ∧ nv = .int .i64 st.n ∧ cv = .bool st.cut ∧ Hid (st = bldFold qb ((L.map (·.1)).take k)) ∧ Hid (∀ r ∈ (L.map (·.1)).take k, r.code = 0) ∧ Gr w2 wr) (fun _ _ _ iv _ => L.length - (intOf iv).toNat)
    case atStart => exact ⟨0, ⟨qb, 0, false⟩, rfl, Nat.zero_le _, rfl, rfl, rfl, Lib.hid rfl, Lib.hid (by simp), Fr.refl _ _⟩
    case round =>
      obtain ⟨k, st, rfl, hk, rfl, rfl, rfl, hst, hz, fr⟩ := hrel
      have FR := Lib.hid fr
      clear fr
      have hstl := bldFold_le qb (by omega) ((L.map (·.1)).take k)
      rw [← hst.out] at hstl
      obtain ⟨hb5, hn5⟩ := hstl
      by_cases hlt : k < L.length
      · obtain ⟨bb, o, rfl, hrg⟩ := (RW2.out.keep FR.out).at k hlt
        have hfit := RW2.out.fits L[k] (List.getElem_mem hlt)
        have htg := ((RW2.out.keep FR.out).tgt L[k] (List.getElem_mem hlt))
        have hget : (L.map (·.1))[k]'(by simpa using hlt) = L[k].1 := by simp
        have htk : (L.map (·.1)).take (k + 1) = (L.map (·.1)).take k ++ [L[k].1] := by rw [List.take_succ_eq_append_getElem (by simpa using hlt), hget]
        have HBD : Hid (L[k].1.code ≠ 0 → O = ([], 0, L[k].1.code)) := Lib.hid (fun hne => by
          have := HO2.out (by simp) _ (rbad_some (by simpa using hlt) hz.out (by rw [hget]; exact hne))
          rw [hget] at this
          exact this)
        have HRG := Lib.hid hrg
        have HTK := Lib.hid htk
        have HFIT := Lib.hid hfit
        have HTG := Lib.hid htg
        clear hrg htk hfit htg hget
        generalize L[k] = x at *
        obtain ⟨r, ta, tc⟩ := x
        simp only at HRG HTK HFIT HTG HBD
        have hle2 := HTG.out.le
        have hmx2 := HTG.out.max
        go_upto_region 11 with fail
        refine wp_region_lit ?_
        refine wpList_indexAddr Try.underlying94 hi1 hi3 (by rfl) (by rfl) hlt ?_
        refine wpList_load_mid (by rfl) 110 _ (by rfl) bb (o + k * 10) (by rfl) (r.cells ta tc) _ HRG.out Try.underlying110 rfl Try.infoRRec ?_
        refine wpList_fresh (vs := r.arr ta tc) hi1 hi2 Try.infoRRec (by rfl) (by rw [← Array.all_toList]; rfl) (by rfl) (by rfl) ?_
        intro w3 f3 b3 l3
        have B3 := Lib.hid b3
        have F3 := Lib.hid (Gr.trans FR.out f3)
        have CB := Lib.hid (bytes_any r ta tc w3 (HTG.out.keep f3 (fun _ _ h => h)) HFIT.out)
        unfold BytesEnd at CB
        clear f3 b3 HRG HTG
        go_upto_region 12 with fail
        refine wp_region_lit ?_
        refine wpList_load_rrec B3.out (by rfl) _ (by rfl) (by rfl) ?_
        go_wp2_with fail
        refine CB.out.mono ?_
        rintro e w4 ⟨rfl, f4⟩
        have F4 := Lib.hid (Gr.trans F3.out f4)
        have hol := r.out_le
        have zo := mk_size r.out
        have zb := mk_size st.body
        clear f4 F3 CB B3 FR
        by_cases hc0 : r.code = 0
        · have ho : r.out = r.enc := by unfold RRec.out; rw [if_pos hc0]
          rw [ho] at zo hol ⊢
          rw [hc0]
          have HZ : Hid (∀ x ∈ (L.map (·.1)).take (k + 1), x.code = 0) := Lib.hid (by
            rw [HTK.out]
            intro x hx
            rcases List.mem_append.1 hx with hx | hx
            · exact hz.out x hx
            · rw [List.mem_singleton.1 hx]; exact hc0)
          have HS : Hid (bldFold qb ((L.map (·.1)).take (k + 1)) = bldStep st r) := Lib.hid (by rw [HTK.out, bldFold_snoc, hst.out])
          have HD : Hid (bldStep st r = if st.cut = true ∨ 512 < 12 + st.body.length + r.enc.length then { st with cut := true } else ⟨st.body ++ r.enc, st.n + 1, false⟩) := Lib.hid rfl
          have happ := mk_cat st.body r.enc
          clear hc0 ho HTK HBD
          generalize r.enc = en at *
          cases hcut : st.cut
          · have HCT := Lib.hid hcut
            by_cases hbig : 512 < 12 + st.body.length + en.length
            · have HD2 : Hid (bldStep st r = { st with cut := true }) := Lib.hid (by rw [HD.out, if_pos (.inr hbig)])
              have d1 : decide ((512 : Int) < 12 + (st.body.length : Int) + (en.length : Int)) = true := decide_eq_true (by omega)
              clear hcut
              go_wp2_with fail
              go_roundw
              case rel => exact ⟨k + 1, { st with cut := true }, by go_num, by omega, rfl, rfl, rfl, Lib.hid (by rw [HS.out, HD2.out]), HZ, F4.out⟩
              case measure => simp [intOf]; omega
            · have HD2 : Hid (bldStep st r = ⟨st.body ++ en, st.n + 1, false⟩) := Lib.hid (by rw [HD.out, if_neg (by rw [HCT.out]; simp; omega)])
              have d1 : decide ((512 : Int) < 12 + (st.body.length : Int) + (en.length : Int)) = false := decide_eq_false (by omega)
              clear hcut
              go_wp2_with fail
              go_roundw
              case rel => exact ⟨k + 1, ⟨st.body ++ en, st.n + 1, false⟩, by go_num, by omega, rfl, by go_num, rfl, Lib.hid (by rw [HS.out, HD2.out]), HZ, F4.out⟩
              case measure => simp [intOf]; omega
          · have HCT := Lib.hid hcut
            have HD2 : Hid (bldStep st r = { st with cut := true }) := Lib.hid (by rw [HD.out, if_pos (.inl hcut)])
            clear hcut
            go_wp2_with fail
            go_roundw
            case rel => exact ⟨k + 1, { st with cut := true }, by go_num, by omega, rfl, rfl, rfl, Lib.hid (by rw [HS.out, HD2.out]), HZ, F4.out⟩
            case measure => simp [intOf]; omega
        · have ho : r.out = [] := by unfold RRec.out; rw [if_neg hc0]
          have hO : O = ([], 0, r.code) := HBD.out hc0
          have hcb : (r.code == 0) = false := by simpa using hc0
          rw [ho]
          subst hO
          clear HBD hst hz HTK ho zo HO2 HO3 hc0
          go_wp2_with fail
          go_ret2
          exact ⟨rfl, Gr.trans F2.out F4.out⟩
      · have hkl : k = L.length := by omega
        subst hkl
        have htk : (L.map (·.1)).take L.length = L.map (·.1) := by rw [List.take_of_length_le (by simp)]
        rw [htk] at hst hz
        have hO := HO3.out (by simp) (rbad_none hz.out)
        rw [← hst.out] at hO
        have C1 : Hid (∀ w, Calls Try.prog 68 #[.agg #[.int .u16 h.id, .bool true, .int .u8 h.op, .bool ((code == 0) || (code == 3)), .bool st.cut, .bool h.des, .bool false, .int .u8 0, .int .u8 code, .int .u16 (if asked = true then 1 else 0), .int .u16 st.n, .int .u16 0, .int .u16 0]] w fun e w' =>
            e = .returned (.tuple #[.string ⟨(bldHd h asked code st.n st.cut).bytes.toArray⟩, .int .i64 0]) ∧ Gr w w') := Lib.hid (fun w => by
          have h1 := headEncode_any (bldHd h asked code st.n st.cut) (bldHd_fits h HF.out asked code st.n st.cut ⟨g2, g3⟩ (by omega)) w
          have h2 : hdOut (bldHd h asked code st.n st.cut) = .ok (bldHd h asked code st.n st.cut).bytes := by unfold hdOut; rw [if_neg (bldHd_ok h asked code st.n st.cut g3 g4)]
          rw [h2] at h1
          exact h1)
        have hbl := hd_bytes_length (bldHd h asked code st.n st.cut)
        generalize (bldHd h asked code st.n st.cut).bytes = hb at *
        obtain ⟨body, n, ct⟩ := st
        simp only at hb5 hn5 C1 hO
        have HOO := Lib.hid hO
        have GF : Hid (Gr W wr) := Lib.hid (Gr.trans F2.out FR.out)
        have BX3 := Lib.hid (BX2.out.keep FR.out (fun h => h))
        have zh := mk_size hb
        have zb := mk_size body
        have happ := mk_cat hb body
        have CC := Lib.hid (counted24_any asked)
        clear hO hst hz htk HO2 HO3 BX2 F2 FR RW2 K1 hi1 hi2 hi3 hi4 hle hmx
        haveI : Nonempty (WC (Gr wr)) := ⟨⟨wr, Fr.refl _ _⟩⟩
        have y0 : ∀ z : WC (Gr wr), z.val.cell? ⟨W.heap.size, 0, none⟩ = some (.int .u16 h.id) := fun z => z.ok.cell (BX3.out 0 _ rfl) (fun h => h)
        have y2 : ∀ z : WC (Gr wr), z.val.cell? ⟨W.heap.size, 2, none⟩ = some (.int .u8 h.op) := fun z => z.ok.cell (BX3.out 2 _ rfl) (fun h => h)
        have y5 : ∀ z : WC (Gr wr), z.val.cell? ⟨W.heap.size, 5, none⟩ = some (.bool h.des) := fun z => z.ok.cell (BX3.out 5 _ rfl) (fun h => h)
        have y13 : ∀ z : WC (Gr wr), z.val.cell? ⟨W.heap.size, 13, none⟩ = some (.bool asked) := fun z => z.ok.cell (BX3.out 13 _ rfl) (fun h => h)
        clear BX3
        obtain ⟨cv, hcv⟩ : ∃ cv : Int, (if asked = true then (1 : Int) else 0) = cv := ⟨_, rfl⟩
        rw [hcv] at C1 CC
        clear hcv
        by_cases hc0 : code = 0
        · subst hc0
          have C2 : Hid (∀ w, Calls Try.prog 68 #[.agg #[.int .u16 h.id, .bool true, .int .u8 h.op, .bool true, .bool ct, .bool h.des, .bool false, .int .u8 0, .int .u8 0, .int .u16 cv, .int .u16 n, .int .u16 0, .int .u16 0]] w fun e w' =>
            e = .returned (.tuple #[.string ⟨hb.toArray⟩, .int .i64 0]) ∧ Gr w w') := C1
          clear C1
          go_upto_region 20 with fail
          refine wp_region_plan [20, 25] (Plan.seq (List.range 31) .done) (fun w' => ∃ z : WC (Gr wr), w' = z.val) (by kernel_rfl) (by kernel_rfl) (fun c a w d v h => by cases d <;> exact h) (fun c a w d v h => by cases d <;> exact h) ⟨⟨wr.drew, (Fr.refl _ _).drew⟩, rfl⟩ ?_
          simp only [Plan.seq, List.range, List.range.loop, List.foldr]
          repeat (refine wpV_q (by simp only [List.getElem?_toArray, List.getElem?_cons_succ, List.getElem?_cons_zero] <;> rfl) (by rfl) (by rfl) ?_; go_big_quiet_step (fail); refine wpQuiet_nil ?_)
          refine wpV_e (by simp only [List.getElem?_toArray, List.getElem?_cons_succ, List.getElem?_cons_zero] <;> rfl) (by rfl) ?_
          go_wp2_with fail
          refine (CC.out _).mono ?_
          rintro e w4 ⟨rfl, rfl⟩
          go_wp2_with fail
          refine ⟨⟨⟨_, (Fr.refl _ _).drew⟩, rfl⟩, ?_⟩
          repeat (refine wpV_q (by simp only [List.getElem?_toArray, List.getElem?_cons_succ, List.getElem?_cons_zero] <;> rfl) (by rfl) (by rfl) ?_; go_big_quiet_step (fail); refine wpQuiet_nil ?_)
          refine wpV_e (by simp only [List.getElem?_toArray, List.getElem?_cons_succ, List.getElem?_cons_zero] <;> rfl) (by rfl) ?_
          go_wp2_with fail
          refine (C2.out _).mono ?_
          rintro e w5 ⟨rfl, f5⟩
          have f6 : Gr wr w5 := Gr.trans ((Fr.refl _ _).drew) f5
          go_wp2_with fail
          refine ⟨⟨⟨w5, f6⟩, rfl⟩, ?_⟩
          repeat (refine wpV_q (by simp only [List.getElem?_toArray, List.getElem?_cons_succ, List.getElem?_cons_zero] <;> rfl) (by rfl) (by rfl) ?_; go_big_quiet_step (fail); refine wpQuiet_nil ?_)
          refine wpV_done ?_
          have F6 := Lib.hid (Gr.trans GF.out f6)
          clear f6 f5 y0 y2 y5 y13 this C2 CC
          go_wp2_with fail
          go_ret2
          exact ⟨by have h := HOO.out; subst h; rfl, F6.out⟩
        · have hn0 : (code == 0) = false := by simpa using hc0
          have C2 := C1
          rw [hn0, Bool.false_or] at C2
          clear C1
          go_upto_region 20 with fail
          refine wp_region_plan [20, 25] (Plan.seq (List.range 31) .done) (fun w' => ∃ z : WC (Gr wr), w' = z.val) (by kernel_rfl) (by kernel_rfl) (fun c a w d v h => by cases d <;> exact h) (fun c a w d v h => by cases d <;> exact h) ⟨⟨wr.drew, (Fr.refl _ _).drew⟩, rfl⟩ ?_
          simp only [Plan.seq, List.range, List.range.loop, List.foldr]
          repeat (refine wpV_q (by simp only [List.getElem?_toArray, List.getElem?_cons_succ, List.getElem?_cons_zero] <;> rfl) (by rfl) (by rfl) ?_; go_big_quiet_step (fail); refine wpQuiet_nil ?_)
          refine wpV_e (by simp only [List.getElem?_toArray, List.getElem?_cons_succ, List.getElem?_cons_zero] <;> rfl) (by rfl) ?_
          go_wp2_with fail
          refine (CC.out _).mono ?_
          rintro e w4 ⟨rfl, rfl⟩
          go_wp2_with fail
          refine ⟨⟨⟨_, (Fr.refl _ _).drew⟩, rfl⟩, ?_⟩
          repeat (refine wpV_q (by simp only [List.getElem?_toArray, List.getElem?_cons_succ, List.getElem?_cons_zero] <;> rfl) (by rfl) (by rfl) ?_; go_big_quiet_step (fail); refine wpQuiet_nil ?_)
          refine wpV_e (by simp only [List.getElem?_toArray, List.getElem?_cons_succ, List.getElem?_cons_zero] <;> rfl) (by rfl) ?_
          go_wp2_with fail
          refine (C2.out _).mono ?_
          rintro e w5 ⟨rfl, f5⟩
          have f6 : Gr wr w5 := Gr.trans ((Fr.refl _ _).drew) f5
          go_wp2_with fail
          refine ⟨⟨⟨w5, f6⟩, rfl⟩, ?_⟩
          repeat (refine wpV_q (by simp only [List.getElem?_toArray, List.getElem?_cons_succ, List.getElem?_cons_zero] <;> rfl) (by rfl) (by rfl) ?_; go_big_quiet_step (fail); refine wpQuiet_nil ?_)
          refine wpV_done ?_
          have F6 := Lib.hid (Gr.trans GF.out f6)
          clear f6 f5 y0 y2 y5 y13 this C2 CC
          go_wp2_with fail
          go_ret2
          exact ⟨by have h := HOO.out; subst h; rfl, F6.out⟩
end Go.Proofs.Ytkclgemkeifbaaa
