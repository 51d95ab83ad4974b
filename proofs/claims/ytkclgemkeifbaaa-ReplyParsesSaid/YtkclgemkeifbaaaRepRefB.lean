/-
  The reference of layer 24: replies (printed by gen_repref.py).
-/
import Derived.Test.YtkclgemkeifbaaaRepRef
import Derived.Test.YtkclgemkeifbaaaCodeAt
import Derived.OwnWalk
namespace Go.Proofs.Ytkclgemkeifbaaa
open Go.RowKit Go.Proofs

def RowR.refCells (x : RowR) : List Value := x.1.refCells x.2.1 x.2.2
theorem RowR.refCells_length (x : RowR) : (RowR.refCells x).length = 10 := rfl
structure RefRowsAt (w : World) (a : Option Addr) (cap : Nat) (L : List RowR) : Prop where
  row : SlA w a L.length cap (L.flatMap RowR.refCells)
  tgt : ∀ x ∈ L, SlA w x.2.1 x.1.target.length x.2.2 (strVs x.1.target)
  fits : ∀ x ∈ L, x.1.Fits
theorem RefRowsAt.keep {w w' : World} {a : Option Addr} {cap : Nat} {L : List RowR} (h : RefRowsAt w a cap L) (f : Gr w w') : RefRowsAt w' a cap L :=
  ⟨h.row.keep f (fun _ _ h => h), fun x hx => (h.tgt x hx).keep f (fun _ _ h => h), h.fits⟩
theorem RefRowsAt.at {w : World} {a : Option Addr} {cap : Nat} {L : List RowR} (h : RefRowsAt w a cap L) (k : Nat) (hk : k < L.length) : ∃ b o, a = some ⟨b, o, none⟩ ∧ w.rangeAt b (o + k * 10) (L[k].1.refCells L[k].2.1 L[k].2.2) := by
  obtain ⟨b, o, e, hc⟩ := SlA.elem (f := RowR.refCells) RowR.refCells_length (by decide) h.row k hk
  exact ⟨b, o, e, fun j v hv => hc j v hv⟩
abbrev rqCells (h : Hd) (asked : Bool) (a : Option Addr) (n cap : Nat) (t c : Int) : Array Value := #[.int .u16 h.id, .int .i64 h.op, .bool h.des, .bool asked, .slice a n cap, .int .i64 t, .int .i64 c]
theorem cat_hd (h : Hd) (asked : Bool) (code : Int) (n : Nat) (cut : Bool) (body : List UInt8) :
    (⟨(two h.id).toArray⟩ : ByteArray) ++ ⟨(two (bldHd h asked code n cut).flags).toArray⟩ ++ ⟨(two (if asked = true then (1 : Int) else 0)).toArray⟩ ++ ⟨(two n).toArray⟩ ++ ⟨#[0, 0, 0, 0]⟩ ++ ⟨body.toArray⟩ = ⟨((bldHd h asked code n cut).bytes ++ body).toArray⟩ := by
  have e1 : (⟨#[0, 0, 0, 0]⟩ : ByteArray) = ⟨(two 0 ++ two 0).toArray⟩ := rfl
  rw [e1]
  simp only [mk_cat]
  congr 2
def RefBuildEnd (o : List UInt8 × Nat × Int) (w : World) (e : Ending) (w' : World) : Prop := e = .returned (.tuple #[.string ⟨o.1.toArray⟩, .int .i64 (o.2.1 : Nat), .int .i64 o.2.2]) ∧ Gr w w'
theorem cat_q (l : List UInt8) (t c : Int) : (⟨l.toArray⟩ : ByteArray) ++ ⟨#[0]⟩ ++ ⟨(two t).toArray⟩ ++ ⟨(two c).toArray⟩ = ⟨((l ++ [0]) ++ (numB 2 t ++ numB 2 c)).toArray⟩ := by
  have e1 : (⟨#[0]⟩ : ByteArray) = ⟨([0] : List UInt8).toArray⟩ := rfl
  rw [e1]
  simp only [mk_cat, two_num, List.append_assoc]

set_option maxHeartbeats 8000000 in
set_option maxRecDepth 100000 in
theorem rb_tail {h : Hd} {asked : Bool} {a : Option Addr} {cap : Nat} {name : List Lbl} {t c code : Int} {b : Option Addr} {capl : Nat} {L : List RowR} {W : World} (hle : L.length ≤ capl) (hmx : capl ≤ 9223372036854775807)
    (hf : h.Fits) (g2 : 0 ≤ code) (g3 : code ≤ 15) (g4 : h.op ≤ 15) {wa : World} (F1 : Hid (Gr W wa)) (RW : Hid (RefRowsAt wa b capl L)) (BX : Hid (Bx wa W.heap.size (rqCells h asked a name.length cap t c).toList)) {qb : List UInt8} (hql : qb.length ≤ 259) {an : Int} (han : (if asked = true then (1 : Int) else 0) = an)
    {O : List UInt8 × Nat × Int} (HO2 : Hid (∀ r, rbad (L.map (·.1)) = some r → O = ([], 0, r.code)))
    (HO3 : Hid (rbad (L.map (·.1)) = none → O = ((bldHd h asked code (bldFold qb (L.map (·.1))).n (bldFold qb (L.map (·.1))).cut).bytes ++ (bldFold qb (L.map (·.1))).body, (bldFold qb (L.map (·.1))).n, 0)))
    {s18 s19 s20 s21 s22 s23 s24 s25 s26 s27 s28 s29 s30 s31 s32 s33 s34 s35 s36 s37 s38 s39 s40 s41 s42 s43 s44 s45 s46 s47 s48 s49 s50 s51 s52 s53 s54 : Value} :
    Code.wp Try.prog (codeAt [1, 1, 1, 1, 1, 0] ((Try.f40).body.getD .skip)) (Exit.then (fun a w => Code.wp Try.prog (codeAt [1, 1, 1, 1, 1, 1] ((Try.f40).body.getD .skip)) (bodyPost Try.prog Try.f40 fun e w' => e = Ending.returned (Value.tuple #[Value.string ⟨O.1.toArray⟩, Value.int IntKind.i64 (O.2.1 : Nat), Value.int IntKind.i64 O.2.2]) ∧ Gr W w') a w) (bodyPost Try.prog Try.f40 fun e w' => e = Ending.returned (Value.tuple #[Value.string ⟨O.1.toArray⟩, Value.int IntKind.i64 (O.2.1 : Nat), Value.int IntKind.i64 O.2.2]) ∧ Gr W w')) ⟨List.toArray (Value.agg (rqCells h asked a name.length cap t c) :: Value.int IntKind.i64 code :: Value.slice b L.length capl :: Value.pointer (some ⟨W.heap.size, 0, none⟩) :: undef :: undef :: Value.string ⟨#[]⟩ :: Value.int IntKind.i64 0 :: Value.int IntKind.i64 0 :: Value.string ⟨qb.toArray⟩ :: Value.int IntKind.i64 an :: undef :: undef :: undef :: undef :: undef :: undef :: undef :: s18 :: s19 :: s20 :: s21 :: s22 :: s23 :: s24 :: s25 :: s26 :: s27 :: s28 :: s29 :: s30 :: s31 :: s32 :: s33 :: s34 :: s35 :: s36 :: s37 :: s38 :: s39 :: s40 :: s41 :: s42 :: s43 :: s44 :: s45 :: s46 :: s47 :: s48 :: s49 :: s50 :: s51 :: s52 :: s53 :: s54 :: undef :: undef :: undef :: undef :: undef :: undef :: undef :: undef :: undef :: undef :: undef :: undef :: undef :: undef :: undef :: undef :: undef :: undef :: undef :: undef :: undef :: undef :: undef :: undef :: undef :: undef :: undef :: undef :: undef :: undef :: undef :: undef :: undef :: undef :: undef :: undef :: undef :: undef :: undef :: undef :: undef :: undef :: undef :: undef :: undef :: undef :: undef :: undef :: undef :: undef :: undef :: undef :: undef :: undef :: undef :: undef :: undef :: undef :: undef :: undef :: undef :: undef :: undef :: undef :: undef :: undef :: undef :: []), []⟩ wa := by
  obtain ⟨i0, hi1, hi2, hi3⟩ : ∃ i, Try.prog.info? 112 = some i ∧ True ∧ i.size = 10 := by
    obtain ⟨i, hi, hs⟩ := Option.map_eq_some_iff.1 Try.infoRefRRec
    exact ⟨i, hi, trivial, hs⟩
  have zq := mk_size qb
  have HAN := Lib.hid han
  have HF := Lib.hid hf
  clear han hf hi2
  conv => arg 2; whnf
  go_wp2_with fail
  conv => arg 2; whnf
  go_wp2_with fail
  go_loopw [9, 11, 12, 13, 14] (fun bv sv nv cv iv wr => ∃ (k : Nat) (st : BSt), iv = .int .i64 k ∧ k ≤ L.length ∧ bv = .string ⟨st.body.toArray⟩ ∧ sv = .int .i64 (12 + (st.body.length : Int)) ∧ nv = .int .i64 st.n ∧ cv = .bool st.cut ∧ Hid (st = bldFold qb ((L.map (·.1)).take k)) ∧ Hid (∀ r ∈ (L.map (·.1)).take k, r.code = 0) ∧ Gr wa wr) (fun _ _ _ _ iv _ => L.length - (intOf iv).toNat)
  case atStart => exact ⟨0, ⟨qb, 0, false⟩, rfl, Nat.zero_le _, rfl, rfl, rfl, rfl, Lib.hid rfl, Lib.hid (by simp), Fr.refl _ _⟩
  case round =>
    obtain ⟨k, st, rfl, hk, rfl, rfl, rfl, rfl, hst, hz, fr⟩ := hrel
    have FR := Lib.hid fr
    clear fr
    have hstl := bldFold_le qb (by omega) ((L.map (·.1)).take k)
    rw [← hst.out] at hstl
    obtain ⟨hb5, hn5⟩ := hstl
    by_cases hlt : k < L.length
    · obtain ⟨bb, o, rfl, hrg⟩ := (RW.out.keep FR.out).at k hlt
      have hfit := RW.out.fits L[k] (List.getElem_mem hlt)
      have htg := ((RW.out.keep FR.out).tgt L[k] (List.getElem_mem hlt))
      have hget : (L.map (·.1))[k]'(by simpa using hlt) = L[k].1 := by simp
      have htk : (L.map (·.1)).take (k + 1) = (L.map (·.1)).take k ++ [L[k].1] := by rw [List.take_succ_eq_append_getElem (by simpa using hlt), hget]
      have HBD : Hid (L[k].1.code ≠ 0 → O = ([], 0, L[k].1.code)) := Lib.hid (fun hne => by
        have := HO2.out _ (rbad_some (by simpa using hlt) hz.out (by rw [hget]; exact hne))
        rw [hget] at this
        exact this)
      have HRG := Lib.hid hrg
      have HTK := Lib.hid htk
      have HFIT := Lib.hid hfit
      have HTG := Lib.hid htg
      clear hrg htk hfit htg hget
      generalize L[k] = x at *
      obtain ⟨r, ta, tc⟩ := x
      simp only at HRG HTK HFIT HTG HBD
      have hle2 := HTG.out.le
      have hmx2 := HTG.out.max
      have CB := Lib.hid (refBytes24_any r ta tc wr HTG.out HFIT.out)
      unfold RefBytesEnd at CB
      go_upto_region 16 with fail
      refine wp_region_lit ?_
      refine wpList_move ?_
      refine wpList_move ?_
      refine wpList_indexAddr Try.underlying97 hi1 hi3 (by rfl) (by rfl) hlt ?_
      refine wpList_load_mid (by rfl) 112 _ (by rfl) bb (o + k * 10) (by rfl) (r.refCells ta tc) _ HRG.out Try.underlying112 rfl Try.infoRefRRec ?_
      go_wp2_with fail
      refine CB.out.mono ?_
      rintro e w4 ⟨rfl, f4⟩
      have F4 := Lib.hid (Gr.trans FR.out f4)
      have hol := r.out_le
      have zo := mk_size r.out
      have zb := mk_size st.body
      clear f4 CB FR HRG HTG
      by_cases hc0 : r.code = 0
      · have ho : r.out = r.enc := by unfold RRec.out; rw [if_pos hc0]
        rw [ho] at zo hol ⊢
        rw [hc0]
        have HZ : Hid (∀ x ∈ (L.map (·.1)).take (k + 1), x.code = 0) := Lib.hid (by
          rw [HTK.out]
          intro x hx
          rcases List.mem_append.1 hx with hx | hx
          · exact hz.out x hx
          · rw [List.mem_singleton.1 hx]; exact hc0)
        have HS : Hid (bldFold qb ((L.map (·.1)).take (k + 1)) = bldStep st r) := Lib.hid (by rw [HTK.out, bldFold_snoc, hst.out])
        have HD : Hid (bldStep st r = if st.cut = true ∨ 512 < 12 + st.body.length + r.enc.length then { st with cut := true } else ⟨st.body ++ r.enc, st.n + 1, false⟩) := Lib.hid rfl
        have happ := mk_cat st.body r.enc
        clear hc0 ho HTK HBD
        generalize r.enc = en at *
        cases hcut : st.cut
        · have HCT := Lib.hid hcut
          by_cases hbig : 512 < 12 + st.body.length + en.length
          · have HD2 : Hid (bldStep st r = { st with cut := true }) := Lib.hid (by rw [HD.out, if_pos (.inr hbig)])
            have d1 : decide ((512 : Int) < 12 + (st.body.length : Int) + (en.length : Int)) = true := decide_eq_true (by omega)
            clear hcut
            go_wp2_with fail
            go_roundw
            case rel => exact ⟨k + 1, { st with cut := true }, by go_num, by omega, rfl, rfl, rfl, rfl, Lib.hid (by rw [HS.out, HD2.out]), HZ, F4.out⟩
            case measure => simp [intOf]; omega
          · have HD2 : Hid (bldStep st r = ⟨st.body ++ en, st.n + 1, false⟩) := Lib.hid (by rw [HD.out, if_neg (by rw [HCT.out]; simp; omega)])
            have d1 : decide ((512 : Int) < 12 + (st.body.length : Int) + (en.length : Int)) = false := decide_eq_false (by omega)
            clear hcut
            go_wp2_with fail
            go_roundw
            case rel => exact ⟨k + 1, ⟨st.body ++ en, st.n + 1, false⟩, by go_num, by omega, rfl, by simp; omega, by go_num, rfl, Lib.hid (by rw [HS.out, HD2.out]), HZ, F4.out⟩
            case measure => simp [intOf]; omega
        · have HCT := Lib.hid hcut
          have HD2 : Hid (bldStep st r = { st with cut := true }) := Lib.hid (by rw [HD.out, if_pos (.inl hcut)])
          clear hcut
          go_wp2_with fail
          go_roundw
          case rel => exact ⟨k + 1, { st with cut := true }, by go_num, by omega, rfl, rfl, rfl, rfl, Lib.hid (by rw [HS.out, HD2.out]), HZ, F4.out⟩
          case measure => simp [intOf]; omega
      · have ho : r.out = [] := by unfold RRec.out; rw [if_neg hc0]
        have hO : O = ([], 0, r.code) := HBD.out hc0
        have hcb : (r.code == 0) = false := by simpa using hc0
        rw [ho]
        subst hO
        clear HBD hst hz HTK ho zo HO2 HO3 hc0
        go_wp2_with fail
        go_ret3
        exact ⟨rfl, Gr.trans F1.out F4.out⟩
    · have hkl : k = L.length := by omega
      subst hkl
      have htk : (L.map (·.1)).take L.length = L.map (·.1) := by rw [List.take_of_length_le (by simp)]
      rw [htk] at hst hz
      have hO := HO3.out (rbad_none hz.out)
      rw [← hst.out] at hO
      have C1 : Hid (∀ w, Calls Try.prog 74 #[.bool true, .int .i64 h.op, .bool ((code == 0) || (code == 3)), .bool st.cut, .bool h.des, .bool false, .int .i64 0, .int .i64 code] w fun e w' => e = .returned (.int .i64 (bldHd h asked code st.n st.cut).flags) ∧ w = w') :=
        Lib.hid (fun w => refFlags_any (bldHd h asked code st.n st.cut) (bldHd_fits h HF.out asked code st.n st.cut ⟨g2, g3⟩ (by omega)) w)
      have hfl : 0 ≤ (bldHd h asked code st.n st.cut).flags ∧ (bldHd h asked code st.n st.cut).flags < 65536 := fl_range _ (bldHd_fits h HF.out asked code st.n st.cut ⟨g2, g3⟩ (by omega)) g4 (by simp [bldHd]) g3 4
      have hcat := cat_hd h asked code st.n st.cut st.body
      rw [HAN.out] at hcat
      have HCAT : Hid (_ = (⟨O.1.toArray⟩ : ByteArray)) := Lib.hid (hcat.trans (by rw [hO]))
      have HON : Hid (O.2.1 = st.n ∧ O.2.2 = 0) := Lib.hid (by rw [hO]; exact ⟨rfl, rfl⟩)
      clear hcat hO hst hz htk HO2 HO3
      generalize (bldHd h asked code st.n st.cut).flags = fl at *
      obtain ⟨fl0, fl1⟩ := hfl
      obtain ⟨body, n, ct⟩ := st
      simp only at hb5 hn5 C1 HCAT HON
      have GF : Hid (Gr W wr) := Lib.hid (Gr.trans F1.out FR.out)
      have BX3 := Lib.hid (BX.out.keep FR.out (fun h => h))
      have zb := mk_size body
      have hid0 := HF.out.id
      have han0 : 0 ≤ an ∧ an ≤ 1 := by rw [← HAN.out]; split <;> omega
      clear BX FR RW hi1 hi3 hle hmx F1 HAN HF
      have tl1 := two_length h.id
      have tl2 := two_length fl
      have tl3 := two_length an
      have tl4 := two_length (n : Int)
      have y1 := BX3.out 1 _ rfl
      have y2 := BX3.out 2 _ rfl
      by_cases hc0 : code = 0
      · subst hc0
        have C2 : Hid (∀ w, Calls Try.prog 74 #[.bool true, .int .i64 h.op, .bool true, .bool ct, .bool h.des, .bool false, .int .i64 0, .int .i64 0] w fun e w' => e = .returned (.int .i64 fl) ∧ w = w') := C1
        clear C1
        go_upto_region 22 with fail
        go_wp2_with fail
        refine (C2.out _).mono ?_
        rintro e w5 ⟨rfl, rfl⟩
        clear y1 y2 C2
        have z0 : wr.cell? ⟨W.heap.size, 0, none⟩ = some (.int .u16 h.id) := BX3.out 0 _ rfl
        go_wp2_with fail
        refine (refTwo_any _ _ (by omega) (by omega)).mono ?_
        rintro e x1 ⟨rfl, h1⟩
        have gg1 : Gr wr x1 := Gr.trans ((Fr.refl _ _)) h1
        go_wp2_with fail
        refine (refTwo_any _ _ (by omega) (by omega)).mono ?_
        rintro e x2 ⟨rfl, h2⟩
        have gg2 : Gr wr x2 := Gr.trans (gg1) h2
        go_wp2_with fail
        refine (refTwo_any _ _ (by omega) (by omega)).mono ?_
        rintro e x3 ⟨rfl, h3⟩
        have gg3 : Gr wr x3 := Gr.trans (gg2) h3
        go_wp2_with fail
        refine (refTwo_any _ _ (by omega) (by omega)).mono ?_
        rintro e x4 ⟨rfl, h4⟩
        have gg4 : Gr wr x4 := Gr.trans (gg3) h4
        go_wp2_with fail
        rw [HCAT.out]
        have F6 := Lib.hid (Gr.trans GF.out gg4)
        obtain ⟨On1, On2⟩ := HON.out
        go_ret3
        refine ⟨?_, F6.out⟩
        rw [On1, On2]
        rfl
      · have hn0 : (code == 0) = false := by simpa using hc0
        have C2 := C1
        rw [hn0, Bool.false_or] at C2
        clear C1
        go_upto_region 22 with fail
        go_wp2_with fail
        refine (C2.out _).mono ?_
        rintro e w5 ⟨rfl, rfl⟩
        clear y1 y2 C2
        have z0 : wr.cell? ⟨W.heap.size, 0, none⟩ = some (.int .u16 h.id) := BX3.out 0 _ rfl
        go_wp2_with fail
        refine (refTwo_any _ _ (by omega) (by omega)).mono ?_
        rintro e x1 ⟨rfl, h1⟩
        have gg1 : Gr wr x1 := Gr.trans ((Fr.refl _ _)) h1
        go_wp2_with fail
        refine (refTwo_any _ _ (by omega) (by omega)).mono ?_
        rintro e x2 ⟨rfl, h2⟩
        have gg2 : Gr wr x2 := Gr.trans (gg1) h2
        go_wp2_with fail
        refine (refTwo_any _ _ (by omega) (by omega)).mono ?_
        rintro e x3 ⟨rfl, h3⟩
        have gg3 : Gr wr x3 := Gr.trans (gg2) h3
        go_wp2_with fail
        refine (refTwo_any _ _ (by omega) (by omega)).mono ?_
        rintro e x4 ⟨rfl, h4⟩
        have gg4 : Gr wr x4 := Gr.trans (gg3) h4
        go_wp2_with fail
        rw [HCAT.out]
        have F6 := Lib.hid (Gr.trans GF.out gg4)
        obtain ⟨On1, On2⟩ := HON.out
        go_ret3
        refine ⟨?_, F6.out⟩
        rw [On1, On2]
        rfl

set_option maxHeartbeats 8000000 in
set_option maxRecDepth 100000 in
theorem refBuild24_any (h : Hd) (hf : h.Fits) (asked : Bool) (a : Option Addr) (cap : Nat) (name : List Lbl) (t c code : Int) (b : Option Addr) (capl : Nat) (L : List RowR) (W : World) (hn : SlA W a name.length cap (strVs name)) (ht : 0 ≤ t ∧ t ≤ 65535) (hc : 0 ≤ c ∧ c ≤ 65535)
    (hcode : -9223372036854775808 ≤ code ∧ code ≤ 9223372036854775807) (hL : RefRowsAt W b capl L) :
    Calls Try.prog 40 #[.agg (rqCells h asked a name.length cap t c), .int .i64 code, .slice b L.length capl] W (RefBuildEnd (bldOut h asked name t c code (L.map (·.1))) W) := by
  have hle := hL.row.le
  have hmx := hL.row.max
  have hnl := hn.le
  have hnm := hn.max
  obtain ⟨w1, hw1⟩ : ∃ w1, w1 = W.alloc (.cells (rqCells h asked a name.length cap t c) 96) := ⟨_, rfl⟩
  have f1 : Gr W w1 := by rw [hw1]; exact (Fr.refl _ _).alloc _
  have hb1 : w1.heap[W.heap.size]? = some (.cells (rqCells h asked a name.length cap t c) 96 (0, 0)) := by rw [hw1, heap_alloc_if, if_pos rfl]
  have BX := Lib.hid (Bx.of_block hb1)
  have F1 := Lib.hid f1
  have HW1 := Lib.hid hw1
  have RW := Lib.hid (hL.keep f1)
  have HN := Lib.hid (hn.keep f1 (fun _ _ h => h))
  have hop := hf.op
  have HF := Lib.hid hf
  obtain ⟨t0, t1⟩ := ht
  obtain ⟨c0, c1⟩ := hc
  have y1 := BX.out 1 _ rfl
  have y3 := BX.out 3 _ rfl
  obtain ⟨O, hO⟩ : ∃ O, O = bldOut h asked name t c code (L.map (·.1)) := ⟨_, rfl⟩
  have HO := Lib.hid hO
  rw [← hO]
  clear hO f1 hb1 hn hw1 hL hf
  unfold RefBuildEnd
  by_cases g1 : code < 0 ∨ 15 < code ∨ 15 < h.op
  · have hO : O = ([], 0, 11) := by rw [HO.out]; unfold bldOut; rw [if_pos g1]
    subst hO
    clear HO RW HN
    by_cases g2 : code < 0
    · go_enter Try.func40, Try.ntmps40
      go_upto_region 1 with fail
      rw [← HW1.out]
      clear HW1
      go_wp2_with fail
      go_ret3
      exact ⟨rfl, F1.out⟩
    · by_cases g3 : 15 < code
      · go_enter Try.func40, Try.ntmps40
        go_upto_region 1 with fail
        rw [← HW1.out]
        clear HW1
        go_wp2_with fail
        go_ret3
        exact ⟨rfl, F1.out⟩
      · have g4 : 15 < h.op := by omega
        clear g1
        go_enter Try.func40, Try.ntmps40
        go_upto_region 1 with fail
        rw [← HW1.out]
        clear HW1
        go_wp2_with fail
        go_ret3
        exact ⟨rfl, F1.out⟩
  have g2 : 0 ≤ code := by omega
  have g3 : code ≤ 15 := by omega
  have g4 : h.op ≤ 15 := by omega
  by_cases k1 : asked = false ∧ L.map (·.1) ≠ []
  · have hO : O = ([], 0, 8) := by rw [HO.out]; unfold bldOut; rw [if_neg g1, if_pos k1]
    subst hO
    obtain ⟨rfl, k2⟩ := k1
    have k3 : 0 < L.length := by
      rcases L with _ | ⟨x, L⟩
      · simp at k2
      · simp
    clear HO RW g1 k2
    go_enter Try.func40, Try.ntmps40
    go_upto_region 1 with fail
    rw [← HW1.out]
    clear HW1
    go_wp2_with fail
    go_ret3
    exact ⟨rfl, F1.out⟩
  have HO1 : Hid (quesCode asked name ≠ 0 → O = ([], 0, 9)) := Lib.hid (fun hq => by rw [HO.out]; unfold bldOut; rw [if_neg g1, if_neg k1, if_pos hq])
  have HO2 : Hid (quesCode asked name = 0 → ∀ r, rbad (L.map (·.1)) = some r → O = ([], 0, r.code)) := Lib.hid (fun hq r hr => by rw [HO.out]; unfold bldOut; rw [if_neg g1, if_neg k1, if_neg (by simpa using hq), hr])
  have HO3 : Hid (quesCode asked name = 0 → rbad (L.map (·.1)) = none → O = ((bldHd h asked code (bldFold (quesB asked name t c) (L.map (·.1))).n (bldFold (quesB asked name t c) (L.map (·.1))).cut).bytes ++ (bldFold (quesB asked name t c) (L.map (·.1))).body, (bldFold (quesB asked name t c) (L.map (·.1))).n, 0)) :=
    Lib.hid (fun hq hr => by rw [HO.out]; unfold bldOut; rw [if_neg g1, if_neg k1, if_neg (by simpa using hq), hr])
  have K1 : Hid (asked = true ∨ L.length = 0) := Lib.hid (by
    cases asked
    · right
      apply Classical.byContradiction
      intro hz
      apply k1
      refine ⟨rfl, ?_⟩
      intro hm
      apply hz
      have := congrArg List.length hm
      simpa using this
    · exact .inl rfl)
  clear HO g1 k1
  have hql := quesB_le asked name t c
  go_enter Try.func40, Try.ntmps40
  go_upto_region 1 with fail
  rw [← HW1.out]
  clear HW1
  go_upto_region 3 with fail
  go_cut [36] from 29 to 36 (fun v wx => v = .bool false ∧ w1 = wx)
  case first =>
    rcases K1.out with hk | hk
    · subst hk
      go_wp2_with fail
      go_meet
      exact ⟨rfl, rfl⟩
    · by_cases ha : asked = true
      · subst ha
        clear hk
        go_wp2_with fail
        go_meet
        exact ⟨rfl, rfl⟩
      · have ha : asked = false := by simpa using ha
        subst ha
        have hk0 : ¬ ((0 : Int) < (L.length : Int)) := by omega
        have hk1 : ¬ (0 < L.length) := by omega
        clear hk
        go_wp2_with fail
        go_meet
        exact ⟨rfl, rfl⟩
  case rest =>
    obtain ⟨rfl, rfl⟩ := hcut
    have hsz := BX.out 0 _ rfl
    have hlt := lt_of_cell hsz
    clear y1 hsz
    cases asked
    · have hq : quesB false name t c = [] := by unfold quesB; simp
      have hqc : quesCode false name = 0 := by unfold quesCode; simp
      rw [hqc] at HO2
      rw [hqc, hq] at HO3
      have P2 := Lib.hid (HO2.out rfl)
      have P3 := Lib.hid (HO3.out rfl)
      clear HO2 HO3
      clear HO1 hq hqc HN hql
      go_upto_region 11 with fail
      refine wp_tail ?_ (by assumption)
      exact rb_tail (asked := false) (an := 0) (qb := []) hle hmx HF.out g2 g3 g4 F1 RW BX (by simp) rfl P2 P3
    · have CM := Lib.hid (refMay21_any a cap name w1 HN.out)
      have y4 := BX.out 4 _ rfl
      cases hm : mayL name
      · have hqc : quesCode true name = 9 := by unfold quesCode; rw [hm]; rfl
        have hO : O = ([], 0, 9) := HO1.out (by rw [hqc]; decide)
        rw [hm] at CM
        subst hO
        clear HO1 HO2 HO3 hqc hm HN RW BX
        go_wp2_with fail
        refine CM.out.mono ?_
        rintro e w2 ⟨rfl, rfl⟩
        go_wp2_with fail
        go_ret3
        exact ⟨rfl, F1.out⟩
      · have hq : quesB true name t c = (bytesL name ++ [0]) ++ (numB 2 t ++ numB 2 c) := by unfold quesB; rw [hm]; simp
        have hqc : quesCode true name = 0 := by unfold quesCode; rw [hm]; simp
        rw [hqc] at HO2
        rw [hqc] at HO3
        have P2 := Lib.hid (HO2.out rfl)
        have P3 := Lib.hid (HO3.out rfl)
        clear HO2 HO3
        rw [hm] at CM
        have CB := Lib.hid (fun w (f : Gr w1 w) => refBytes21_any a cap name w (HN.out.keep f (fun _ _ h => h)) hm)
        have HCAT : Hid (_ = (⟨(quesB true name t c).toArray⟩ : ByteArray)) := Lib.hid ((cat_q (bytesL name) t c).trans (by rw [hq]))
        have hbl : (bytesL name).length ≤ 254 := by have := ((mayL_iff _).1 hm).2; rw [lbSize_bytes]; exact this
        have z4 : ∀ z : WC (Gr w1), z.val.cell? ⟨W.heap.size, 4, none⟩ = some (.slice a name.length cap) := fun z => z.ok.cell (BX.out 4 _ rfl) (fun h => h)
        have z5 : ∀ z : WC (Gr w1), z.val.cell? ⟨W.heap.size, 5, none⟩ = some (.int .i64 t) := fun z => z.ok.cell (BX.out 5 _ rfl) (fun h => h)
        have z6 : ∀ z : WC (Gr w1), z.val.cell? ⟨W.heap.size, 6, none⟩ = some (.int .i64 c) := fun z => z.ok.cell (BX.out 6 _ rfl) (fun h => h)
        have tl1 := two_length t
        have tl2 := two_length c
        haveI : Nonempty (WC (Gr w1)) := ⟨⟨w1, Fr.refl _ _⟩⟩
        clear HO1 hq hqc hm HN K1
        generalize quesB true name t c = qb at *
        generalize bytesL name = nb at *
        go_wp2_with fail
        refine CM.out.mono ?_
        rintro e w2 ⟨rfl, rfl⟩
        clear CM y3 y4
        go_upto_region 10 with fail
        refine wp_region_plan [2, 6, 10] (Plan.seq (List.range 13) .done) (fun w' => ∃ z : WC (Gr w1), w' = z.val) (by kernel_rfl) (by kernel_rfl) (fun c a w d v h => by cases d <;> exact h) (fun c a w d v h => by cases d <;> exact h) ⟨⟨w1.drew, (Fr.refl _ _).drew⟩, rfl⟩ ?_
        simp only [Plan.seq, List.range, List.range.loop, List.foldr]
        repeat (refine wpV_q (by simp only [List.getElem?_toArray, List.getElem?_cons_succ, List.getElem?_cons_zero] <;> rfl) (by rfl) (by rfl) ?_; go_big_quiet_step (fail); refine wpQuiet_nil ?_)
        refine wpV_e (by simp only [List.getElem?_toArray, List.getElem?_cons_succ, List.getElem?_cons_zero] <;> rfl) (by rfl) ?_
        go_wp2_with fail
        refine (CB.out _ ((Fr.refl _ _).drew)).mono ?_
        rintro e x1 ⟨rfl, h1⟩
        go_wp2_with fail
        have gg1 : Gr w1 x1 := Gr.trans ((Fr.refl _ _).drew) h1
        refine ⟨⟨⟨x1, gg1⟩, rfl⟩, ?_⟩
        repeat (refine wpV_q (by simp only [List.getElem?_toArray, List.getElem?_cons_succ, List.getElem?_cons_zero] <;> rfl) (by rfl) (by rfl) ?_; go_big_quiet_step (fail); refine wpQuiet_nil ?_)
        refine wpV_e (by simp only [List.getElem?_toArray, List.getElem?_cons_succ, List.getElem?_cons_zero] <;> rfl) (by rfl) ?_
        go_wp2_with fail
        refine (refTwo_any _ _ (by omega) (by omega)).mono ?_
        rintro e x2 ⟨rfl, h2⟩
        go_wp2_with fail
        have gg2 : Gr w1 x2 := Gr.trans (gg1) h2
        refine ⟨⟨⟨x2, gg2⟩, rfl⟩, ?_⟩
        repeat (refine wpV_q (by simp only [List.getElem?_toArray, List.getElem?_cons_succ, List.getElem?_cons_zero] <;> rfl) (by rfl) (by rfl) ?_; go_big_quiet_step (fail); refine wpQuiet_nil ?_)
        refine wpV_e (by simp only [List.getElem?_toArray, List.getElem?_cons_succ, List.getElem?_cons_zero] <;> rfl) (by rfl) ?_
        go_wp2_with fail
        refine (refTwo_any _ _ (by omega) (by omega)).mono ?_
        rintro e x3 ⟨rfl, h3⟩
        go_wp2_with fail
        have gg3 : Gr w1 x3 := Gr.trans (gg2) h3
        refine ⟨⟨⟨x3, gg3⟩, rfl⟩, ?_⟩
        repeat (refine wpV_q (by simp only [List.getElem?_toArray, List.getElem?_cons_succ, List.getElem?_cons_zero] <;> rfl) (by rfl) (by rfl) ?_; go_big_quiet_step (fail); refine wpQuiet_nil ?_)
        refine wpV_done ?_
        rw [HCAT.out]
        have RW3 := Lib.hid (RW.out.keep gg3)
        have BX3 := Lib.hid (BX.out.keep gg3 (fun h => h))
        have F3 := Lib.hid (Gr.trans F1.out gg3)
        clear z4 z5 z6 this tl1 tl2 gg1 gg2 gg3 h1 h2 h3 CB HCAT RW BX F1 hbl
        go_upto_region 11 with fail
        refine wp_tail ?_ (by assumption)
        exact rb_tail (asked := true) (an := 1) (qb := qb) hle hmx HF.out g2 g3 g4 F3 RW3 BX3 hql rfl P2 P3
end Go.Proofs.Ytkclgemkeifbaaa
