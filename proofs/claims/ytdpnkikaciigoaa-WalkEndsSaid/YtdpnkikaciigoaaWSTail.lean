/-
  WalkSteps: what stands behind its walks' steps (head printed by dext; printed by gen_wstail.py).
-/
import Derived.Test.YtdpnkikaciigoaaWalkLaw
import Derived.Test.YtdpnkikaciigoaaViewSane
import Derived.Test.YtdpnkikaciigoaaCodeAt
namespace Go.Proofs.Ytdpnkikaciigoaa
open Go.RowKit Go.Proofs

set_option maxHeartbeats 16000000 in
set_option maxRecDepth 100000 in
theorem ws_tail {a1 : Option Addr} {c1 : Nat} {la : List Int} {n0 : Int} {n1 : Int} {n2 : Int} {n3 : Int} {num : Int} {W : World} {ip : TypeInfo}
    (hp1 : Try.prog.info? 36 = some ip)
    (hp2 : ip.zero = some (Value.agg stepZ)) {w0 : World}
    (F0 : Hid (Gr W w0)) {q : Nat} {u29 : Value} {u30 : Value} {u31 : Value} {u32 : Value} {u33 : Value} {u34 : Value} {u35 : Value} {u36 : Value} {u37 : Value} {u38 : Value} {u39 : Value} {u40 : Value} {u41 : Value} {k : Nat} {v : Vw} {y : VwP} {u21 : Value} {u22 : Value} {u23 : Value} {u24 : Value} {u25 : Value} {u26 : Value} {u27 : Value} {fr : Int} {no : Int} {rv : Value} {nx : Int} {s1 : Bool} {s2 : Int} {s3 : Bool}
    (HJL : Hid ((s1, s2, s3) = wantJ v n2 n3 nx)) {u59 : Value} {u60 : Value} {u61 : Value} {u62 : Value} {u63 : Value} {u64 : Value} {u65 : Value} {u66 : Value} {u67 : Value} {g1 : Nat} {t1 : Bool} {t2 : Int} {t3 : Bool}
    (HML : Hid ((t1, t2, t3) = wantM n2 nx)) {u68 : Value} {u69 : Value} {u70 : Value} {u71 : Value} {u72 : Value} {u73 : Value} {u74 : Value} {u75 : Value} {g2 : Nat} {wr : World}
    (VK : Hid (VarV w0 q wr v y))
    (B1 : Hid (wr.heap[g1]? = some (Obj.cells #[Value.bool s1, Value.int IntKind.i64 s2, Value.bool s3] 36)))
    (B2 : Hid (wr.heap[g2]? = some (Obj.cells #[Value.bool t1, Value.int IntKind.i64 t2, Value.bool t3] 36))) :
    Code.wp Try.prog (codeAt [1, 1, 1, 1, 1, 1, 1, 1, 0] ((Try.f3).body.getD .skip)) (Exit.then (fun a w => Code.wp Try.prog (codeAt [1, 1, 1, 1, 1, 1, 1, 1, 1] ((Try.f3).body.getD .skip)) (bodyPost Try.prog Try.f3 fun (e : Ending) (w' : World) => e = Ending.returned (Value.bool true) ∧ Gr W w') a w) (bodyPost Try.prog Try.f3 fun (e : Ending) (w' : World) => e = Ending.returned (Value.bool true) ∧ Gr W w')) ⟨List.toArray (Value.slice a1 la.length c1 :: Value.agg #[Value.int IntKind.i64 n0, Value.int IntKind.i64 n1, Value.int IntKind.i64 n2, Value.int IntKind.i64 n3] :: Value.int IntKind.u32 num :: undef :: Value.pointer (some { block := W.heap.size, off := 0 }) :: undef :: Value.bool false :: Value.pointer (some { block := q, off := 0 }) :: Value.int IntKind.i64 (↑k : Int) :: Value.int IntKind.i64 fr :: Value.int IntKind.i64 no :: Value.int IntKind.i64 n2 :: Value.int IntKind.i64 n3 :: Value.int IntKind.i64 nx :: Value.pointer (some { block := g1, off := 0 }) :: Value.pointer (some { block := g2, off := 0 }) :: undef :: undef :: Value.bool true :: Value.bool false :: (vwNew 9 8 8).val vwNone :: u21 :: u22 :: u23 :: u24 :: u25 :: u26 :: u27 :: Value.bool false :: u29 :: u30 :: u31 :: u32 :: u33 :: u34 :: u35 :: u36 :: u37 :: u38 :: u39 :: u40 :: u41 :: Value.pointer (some { block := W.heap.size, off := 0 }) :: Value.int IntKind.i64 n0 :: Value.int IntKind.i64 fr :: Value.pointer (some { block := W.heap.size, off := 1 }) :: Value.int IntKind.i64 n1 :: Value.int IntKind.i64 no :: Value.pointer (some { block := W.heap.size, off := 2 }) :: Value.int IntKind.i64 n2 :: Value.pointer (some { block := W.heap.size, off := 3 }) :: Value.int IntKind.i64 n3 :: Value.pointer (some { block := q, off := 1 }) :: Value.agg #[Value.slice y.aa v.act.length y.ac, Value.int IntKind.i64 v.am] :: rv :: Value.int IntKind.i64 fr :: Value.int IntKind.i64 no :: Value.int IntKind.u32 num :: Value.int IntKind.i64 nx :: u59 :: u60 :: u61 :: u62 :: u63 :: u64 :: u65 :: u66 :: u67 :: u68 :: u69 :: u70 :: u71 :: u72 :: u73 :: u74 :: u75 :: undef :: undef :: undef :: undef :: undef :: undef :: undef :: undef :: undef :: undef :: undef :: undef :: undef :: undef :: undef :: undef :: undef :: undef :: undef :: undef :: undef :: undef :: undef :: undef :: undef :: undef :: undef :: undef :: undef :: undef :: undef :: undef :: undef :: undef :: undef :: []), []⟩ wr := by
  conv => arg 2; whnf
  have heq : ∀ (w : World) (e : Bool) (n : Int) (k : Bool), (Op.equalIn 10000 36 (.agg #[.bool e, .int .i64 n, .bool k]) (.agg #[.bool e, .int .i64 n, .bool k])).run Try.prog w = .ok true w := fun w e n k => eql_step w 9998 e n k
  go_wp2_with (refine wpList_fresh (vs := #[.bool true, .int .i64 0, .bool false]) hp1 hp2 Try.infoStep (by rfl) (by rw [← Array.all_toList]; rfl) (by rfl) (by rfl) ?_)
  intro w7 f7 b7 l7
  obtain ⟨g3, hg3⟩ : ∃ g3, g3 = wr.heap.size := ⟨_, rfl⟩
  have hg1n : g1 ≠ g3 := by have := (Array.getElem?_eq_some_iff.1 B1.out).1; omega
  have hg2n : g2 ≠ g3 := by have := (Array.getElem?_eq_some_iff.1 B2.out).1; omega
  have hWg3 : w0.heap.size ≤ g3 := by rw [hg3]; exact VK.out.gr.size
  rw [← hg3] at b7 l7 ⊢
  have V7 := Lib.hid (VK.out.keep f7)
  replace B1 := Lib.hid (blk_keep f7 B1.out (fun h => h))
  replace B2 := Lib.hid (blk_keep f7 B2.out (fun h => h))
  have B3 := Lib.hid b7
  have y1 := (Bx.of_block V7.out.blk) 1 _ rfl
  have y2 := (Bx.of_block V7.out.blk) 2 _ rfl
  have hl64 : v.act.length ≤ 64 := V7.out.at_.good.act.len
  have CL := Lib.hid (setLen_any y.aa v.act.length y.ac v.am w7)
  clear f7 b7 l7 VK hg3
  obtain ⟨cj, hcj⟩ : ∃ cj, cj = (!decide (n2 < 1) && !decide ((v.act.length : Int) < 2) && decide (0 < nx)) := ⟨_, rfl⟩
  have HCJ := Lib.hid hcj
  clear hcj
  go_wp2_with fail
  conv => arg 2; whnf
  go_upto_region 13 with fail
  simp only [Act.put, List.setIfInBounds_toArray, List.set_cons_succ, List.set_cons_zero]
  go_cut [88] from 77 to 88 (fun c wx => c = .bool cj ∧ Gr w7 wx)
  case first =>
    by_cases hl : n2 < 1
    · have hd := Lib.hid (show cj = false by rw [HCJ.out, decide_eq_true hl]; simp)
      go_wp2_with fail
      go_meet
      exact ⟨by rw [hd.out], Fr.refl _ _⟩
    · by_cases h2 : (v.act.length : Int) < 2
      · have hd := Lib.hid (show cj = false by rw [HCJ.out, decide_eq_true h2]; simp)
        go_wp2_with fail
        refine CL.out.mono ?_
        rintro e w8 ⟨rfl, f8⟩
        have F8 := Lib.hid f8
        clear f8 CL
        go_wp2_with fail
        go_meet
        exact ⟨by rw [hd.out], F8.out⟩
      · by_cases hx : 0 < nx
        · have hd := Lib.hid (show cj = true by rw [HCJ.out, decide_eq_false hl, decide_eq_false h2, decide_eq_true hx]; simp)
          go_wp2_with fail
          refine CL.out.mono ?_
          rintro e w8 ⟨rfl, f8⟩
          have F8 := Lib.hid f8
          clear f8 CL
          go_wp2_with fail
          go_meet
          exact ⟨by rw [hd.out], F8.out⟩
        · have hd := Lib.hid (show cj = false by rw [HCJ.out, decide_eq_false hx]; simp)
          go_wp2_with fail
          refine CL.out.mono ?_
          rintro e w8 ⟨rfl, f8⟩
          have F8 := Lib.hid f8
          clear f8 CL
          go_wp2_with fail
          go_meet
          exact ⟨by rw [hd.out, decide_eq_false (show ¬ 0 < nx by omega)], F8.out⟩
  case rest =>
    obtain ⟨rfl, fcx⟩ := hcut
    obtain ⟨wx, hwx⟩ : ∃ x, x = wc := ⟨_, rfl⟩
    subst hwx
    replace B1 := Lib.hid (blk_keep fcx B1.out (fun h => h))
    replace B2 := Lib.hid (blk_keep fcx B2.out (fun h => h))
    replace B3 := Lib.hid (blk_keep fcx B3.out (fun h => h))
    have FX := Lib.hid (Gr.trans V7.out.gr fcx)
    clear fcx V7 y1 y2 CL hl64
    have hjl := HJL.out
    unfold wantJ at hjl
    cases cj
    case false =>
      have hcond : n2 < 1 ∨ (v.act.length : Int) < 2 ∨ nx ≤ 0 := by
        have := HCJ.out
        by_cases hl : n2 < 1
        · exact .inl hl
        · by_cases h2 : (v.act.length : Int) < 2
          · exact .inr (.inl h2)
          · rw [decide_eq_false hl, decide_eq_false h2] at this
            right; right
            have := of_decide_eq_false (show decide (0 < nx) = false by simpa using this.symm)
            omega
      rw [if_pos hcond] at hjl
      injection hjl with m1 m2
      injection m2 with m2 m3
      replace m2 := m2.symm
      subst m1 m2 m3
      clear hcond HCJ HJL hg1n hg2n hWg3
      go_upto_region 15 with fail
      go_wp2_with (refine wpList_fresh (vs := #[.bool true, .int .i64 0, .bool false]) hp1 hp2 Try.infoStep (by rfl) (by rw [← Array.all_toList]; rfl) (by rfl) (by rfl) ?_)
      intro wy fy by_ ly
      obtain ⟨g4, hg4⟩ : ∃ g4, g4 = wx.heap.size := ⟨_, rfl⟩
      rw [← hg4] at by_ ly ⊢
      have C1 := Lib.hid (blk_keep fy B1.out (fun h => h))
      have C2 := Lib.hid (blk_keep fy B2.out (fun h => h))
      have C3 := Lib.hid (blk_keep fy B3.out (fun h => h))
      have C4 := Lib.hid by_
      have ne1 : g1 ≠ g4 := by have := (Array.getElem?_eq_some_iff.1 B1.out).1; omega
      have ne2 : g2 ≠ g4 := by have := (Array.getElem?_eq_some_iff.1 B2.out).1; omega
      have ne3 : g3 ≠ g4 := by have := (Array.getElem?_eq_some_iff.1 B3.out).1; omega
      have hWg4 : w0.heap.size ≤ g4 := by rw [hg4]; exact FX.out.size
      have FY := Lib.hid (Gr.trans FX.out fy)
      clear fy by_ ly hg4 B1 B2 B3 FX
      obtain ⟨cm, hcm⟩ : ∃ cm, cm = (!decide (n2 < 1) && decide (0 < nx)) := ⟨_, rfl⟩
      have HCM := Lib.hid hcm
      clear hcm
      go_upto_region 16 with fail
      simp only [Act.put, List.setIfInBounds_toArray, List.set_cons_succ, List.set_cons_zero]
      go_cut [100] from 95 to 100 (fun c wz => c = .bool cm ∧ wz = wy)
      case first =>
        by_cases hl : n2 < 1
        · have hd := Lib.hid (show cm = false by rw [HCM.out, decide_eq_true hl]; simp)
          go_wp2_with fail
          go_meet
          exact ⟨by rw [hd.out], rfl⟩
        · by_cases hx : 0 < nx
          · have hd := Lib.hid (show cm = true by rw [HCM.out, decide_eq_false hl, decide_eq_true hx]; simp)
            go_wp2_with fail
            go_meet
            exact ⟨by rw [hd.out], rfl⟩
          · have hd := Lib.hid (show cm = false by rw [HCM.out, decide_eq_false hx]; simp)
            go_wp2_with fail
            go_meet
            exact ⟨by rw [hd.out], rfl⟩
      case rest =>
        obtain ⟨rfl, rfl⟩ := hcut
        have hml := HML.out
        unfold wantM at hml
        cases cm
        case false =>
          have hcond : n2 < 1 ∨ nx ≤ 0 := by
            have := HCM.out
            by_cases hl : n2 < 1
            · exact .inl hl
            · rw [decide_eq_false hl] at this
              right
              have := of_decide_eq_false (show decide (0 < nx) = false by simpa using this.symm)
              omega
          rw [if_pos hcond] at hml
          injection hml with m1 m2
          injection m2 with m2 m3
          replace m2 := m2.symm
          subst m1 m2 m3
          clear hcond HCM HML
          have a0 := (Bx.of_block C1.out) 0 _ rfl
          have a1 := (Bx.of_block C1.out) 1 _ rfl
          have a2 := (Bx.of_block C1.out) 2 _ rfl
          have b0 := (Bx.of_block C2.out) 0 _ rfl
          have b1 := (Bx.of_block C2.out) 1 _ rfl
          have b2 := (Bx.of_block C2.out) 2 _ rfl
          have c0 := (Bx.of_block C3.out) 0 _ rfl
          have c1 := (Bx.of_block C3.out) 1 _ rfl
          have c2 := (Bx.of_block C3.out) 2 _ rfl
          have d0 := (Bx.of_block C4.out) 0 _ rfl
          have d1 := (Bx.of_block C4.out) 1 _ rfl
          have d2 := (Bx.of_block C4.out) 2 _ rfl
          clear C1 C2 C3 C4
          go_wp2_with fail
          go_ret
          exact ⟨rfl, Gr.trans F0.out FY.out⟩
        case true =>
          have hcond : ¬ (n2 < 1 ∨ nx ≤ 0) := by
            have := HCM.out.symm
            simp only [Bool.and_eq_true, Bool.not_eq_true', decide_eq_false_iff_not, decide_eq_true_eq] at this
            omega
          rw [if_neg hcond] at hml
          injection hml with m1 m2
          injection m2 with m2 m3
          replace m2 := m2.symm
          subst m1 m2 m3
          clear hcond HCM HML
          go_upto_region 17 with fail
          go_wp2_with (refine wpList_storeW (vs := #[.bool false, .int .i64 nx, .bool false]) C4.out (by rfl) 36 _ _ (by rfl) (by rfl) (by rfl) rfl Try.infoStep (by rw [← Array.all_toList]; rfl) ?_)
          intro wv fv bv
          have E1 := Lib.hid (blk_keep fv C1.out ne1)
          have E2 := Lib.hid (blk_keep fv C2.out ne2)
          have E3 := Lib.hid (blk_keep fv C3.out ne3)
          have E4 := Lib.hid bv
          have FV := Lib.hid (fr_new FY.out fv hWg4)
          clear fv bv C1 C2 C3 C4 FY
          have a0 := (Bx.of_block E1.out) 0 _ rfl
          have a1 := (Bx.of_block E1.out) 1 _ rfl
          have a2 := (Bx.of_block E1.out) 2 _ rfl
          have b0 := (Bx.of_block E2.out) 0 _ rfl
          have b1 := (Bx.of_block E2.out) 1 _ rfl
          have b2 := (Bx.of_block E2.out) 2 _ rfl
          have c0 := (Bx.of_block E3.out) 0 _ rfl
          have c1 := (Bx.of_block E3.out) 1 _ rfl
          have c2 := (Bx.of_block E3.out) 2 _ rfl
          have d0 := (Bx.of_block E4.out) 0 _ rfl
          have d1 := (Bx.of_block E4.out) 1 _ rfl
          have d2 := (Bx.of_block E4.out) 2 _ rfl
          clear E1 E2 E3 E4
          go_wp2_with fail
          go_ret
          exact ⟨rfl, Gr.trans F0.out FV.out⟩
    case true =>
      have hcond : ¬ (n2 < 1 ∨ (v.act.length : Int) < 2 ∨ nx ≤ 0) := by
        have := HCJ.out.symm
        simp only [Bool.and_eq_true, Bool.not_eq_true', decide_eq_false_iff_not, decide_eq_true_eq] at this
        omega
      rw [if_neg hcond] at hjl
      injection hjl with m1 m2
      injection m2 with m2 m3
      replace m2 := m2.symm
      subst m1 m2
      clear hcond HCJ HJL
      rw [m3] at B1
      clear m3
      go_upto_region 14 with fail
      go_wp2_with (refine wpList_storeW (vs := #[.bool false, .int .i64 nx, .bool (n2 == n3)]) B3.out (by rfl) 36 _ _ (by rfl) (by rfl) (by rfl) rfl Try.infoStep (by rw [← Array.all_toList]; rfl) ?_)
      intro wu fu bu
      replace B1 := Lib.hid (blk_keep fu B1.out hg1n)
      replace B2 := Lib.hid (blk_keep fu B2.out hg2n)
      replace B3 := Lib.hid bu
      replace FX := Lib.hid (fr_new FX.out fu hWg3)
      clear fu bu hg1n hg2n hWg3
      obtain ⟨wx, hwx⟩ : ∃ x, x = wu := ⟨_, rfl⟩
      subst hwx
      go_upto_region 15 with fail
      go_wp2_with (refine wpList_fresh (vs := #[.bool true, .int .i64 0, .bool false]) hp1 hp2 Try.infoStep (by rfl) (by rw [← Array.all_toList]; rfl) (by rfl) (by rfl) ?_)
      intro wy fy by_ ly
      obtain ⟨g4, hg4⟩ : ∃ g4, g4 = wx.heap.size := ⟨_, rfl⟩
      rw [← hg4] at by_ ly ⊢
      have C1 := Lib.hid (blk_keep fy B1.out (fun h => h))
      have C2 := Lib.hid (blk_keep fy B2.out (fun h => h))
      have C3 := Lib.hid (blk_keep fy B3.out (fun h => h))
      have C4 := Lib.hid by_
      have ne1 : g1 ≠ g4 := by have := (Array.getElem?_eq_some_iff.1 B1.out).1; omega
      have ne2 : g2 ≠ g4 := by have := (Array.getElem?_eq_some_iff.1 B2.out).1; omega
      have ne3 : g3 ≠ g4 := by have := (Array.getElem?_eq_some_iff.1 B3.out).1; omega
      have hWg4 : w0.heap.size ≤ g4 := by rw [hg4]; exact FX.out.size
      have FY := Lib.hid (Gr.trans FX.out fy)
      clear fy by_ ly hg4 B1 B2 B3 FX
      obtain ⟨cm, hcm⟩ : ∃ cm, cm = (!decide (n2 < 1) && decide (0 < nx)) := ⟨_, rfl⟩
      have HCM := Lib.hid hcm
      clear hcm
      go_upto_region 16 with fail
      simp only [Act.put, List.setIfInBounds_toArray, List.set_cons_succ, List.set_cons_zero]
      go_cut [100] from 95 to 100 (fun c wz => c = .bool cm ∧ wz = wy)
      case first =>
        by_cases hl : n2 < 1
        · have hd := Lib.hid (show cm = false by rw [HCM.out, decide_eq_true hl]; simp)
          go_wp2_with fail
          go_meet
          exact ⟨by rw [hd.out], rfl⟩
        · by_cases hx : 0 < nx
          · have hd := Lib.hid (show cm = true by rw [HCM.out, decide_eq_false hl, decide_eq_true hx]; simp)
            go_wp2_with fail
            go_meet
            exact ⟨by rw [hd.out], rfl⟩
          · have hd := Lib.hid (show cm = false by rw [HCM.out, decide_eq_false hx]; simp)
            go_wp2_with fail
            go_meet
            exact ⟨by rw [hd.out], rfl⟩
      case rest =>
        obtain ⟨rfl, rfl⟩ := hcut
        have hml := HML.out
        unfold wantM at hml
        cases cm
        case false =>
          have hcond : n2 < 1 ∨ nx ≤ 0 := by
            have := HCM.out
            by_cases hl : n2 < 1
            · exact .inl hl
            · rw [decide_eq_false hl] at this
              right
              have := of_decide_eq_false (show decide (0 < nx) = false by simpa using this.symm)
              omega
          rw [if_pos hcond] at hml
          injection hml with m1 m2
          injection m2 with m2 m3
          replace m2 := m2.symm
          subst m1 m2 m3
          clear hcond HCM HML
          have a0 := (Bx.of_block C1.out) 0 _ rfl
          have a1 := (Bx.of_block C1.out) 1 _ rfl
          have a2 := (Bx.of_block C1.out) 2 _ rfl
          have b0 := (Bx.of_block C2.out) 0 _ rfl
          have b1 := (Bx.of_block C2.out) 1 _ rfl
          have b2 := (Bx.of_block C2.out) 2 _ rfl
          have c0 := (Bx.of_block C3.out) 0 _ rfl
          have c1 := (Bx.of_block C3.out) 1 _ rfl
          have c2 := (Bx.of_block C3.out) 2 _ rfl
          have d0 := (Bx.of_block C4.out) 0 _ rfl
          have d1 := (Bx.of_block C4.out) 1 _ rfl
          have d2 := (Bx.of_block C4.out) 2 _ rfl
          clear C1 C2 C3 C4
          go_wp2_with fail
          go_ret
          exact ⟨rfl, Gr.trans F0.out FY.out⟩
        case true =>
          have hcond : ¬ (n2 < 1 ∨ nx ≤ 0) := by
            have := HCM.out.symm
            simp only [Bool.and_eq_true, Bool.not_eq_true', decide_eq_false_iff_not, decide_eq_true_eq] at this
            omega
          rw [if_neg hcond] at hml
          injection hml with m1 m2
          injection m2 with m2 m3
          replace m2 := m2.symm
          subst m1 m2 m3
          clear hcond HCM HML
          go_upto_region 17 with fail
          go_wp2_with (refine wpList_storeW (vs := #[.bool false, .int .i64 nx, .bool false]) C4.out (by rfl) 36 _ _ (by rfl) (by rfl) (by rfl) rfl Try.infoStep (by rw [← Array.all_toList]; rfl) ?_)
          intro wv fv bv
          have E1 := Lib.hid (blk_keep fv C1.out ne1)
          have E2 := Lib.hid (blk_keep fv C2.out ne2)
          have E3 := Lib.hid (blk_keep fv C3.out ne3)
          have E4 := Lib.hid bv
          have FV := Lib.hid (fr_new FY.out fv hWg4)
          clear fv bv C1 C2 C3 C4 FY
          have a0 := (Bx.of_block E1.out) 0 _ rfl
          have a1 := (Bx.of_block E1.out) 1 _ rfl
          have a2 := (Bx.of_block E1.out) 2 _ rfl
          have b0 := (Bx.of_block E2.out) 0 _ rfl
          have b1 := (Bx.of_block E2.out) 1 _ rfl
          have b2 := (Bx.of_block E2.out) 2 _ rfl
          have c0 := (Bx.of_block E3.out) 0 _ rfl
          have c1 := (Bx.of_block E3.out) 1 _ rfl
          have c2 := (Bx.of_block E3.out) 2 _ rfl
          have d0 := (Bx.of_block E4.out) 0 _ rfl
          have d1 := (Bx.of_block E4.out) 1 _ rfl
          have d2 := (Bx.of_block E4.out) 2 _ rfl
          clear E1 E2 E3 E4
          go_wp2_with fail
          go_ret
          exact ⟨rfl, Gr.trans F0.out FV.out⟩
end Go.Proofs.Ytdpnkikaciigoaa
