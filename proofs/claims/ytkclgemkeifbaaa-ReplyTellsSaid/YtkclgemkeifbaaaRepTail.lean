/-
  ReplyTells: what stands behind its compares (head printed by dext).
-/
import Derived.Test.YtkclgemkeifbaaaReplyBuilds
import Derived.Test.YtkclgemkeifbaaaRepSame
namespace Go.Proofs.Ytkclgemkeifbaaa
open Go.RowKit Go.Proofs


theorem wpQuiet_indexAddr {ops : Array Oper} {C : World → Prop} {Q : Act → Prop} {rest : List Oper} {dst : Option Tmp} {ty e t : TypeId} {pos : String} {after : Array Edge} {x y : Operand} {a : Act} {i : TypeInfo} {sz b o n cap k : Nat}
    (hu : Try.prog.underlying ty = some (.slice e)) (hi : Try.prog.info? e = some i) (hz : i.size = sz) (hx : a.eval x = .slice (some ⟨b, o, none⟩) n cap) (hy : a.eval y = .int .i64 k) (hk : k < n)
    (h : wpQuiet Try.prog ops C Q rest (a.put dst (.pointer (some ⟨b, o + k * sz, none⟩)))) : wpQuiet Try.prog ops C Q (⟨dst, .indexAddr ty x y, t, pos, after, none⟩ :: rest) a := by
  have hw : Region.wanted (⟨dst, .indexAddr ty x y, t, pos, after, none⟩ : Oper) (yielded ops a.tmps) = true := rfl
  unfold wpQuiet
  rw [if_pos hw]
  refine ⟨.pointer (some ⟨b, o + k * sz, none⟩), fun w _ => ?_, h⟩
  unfold Oper.quietAt Oper.quietUpon
  rw [exec_indexAddr hu hi hz a.eval x y w dst t pos after hx hy hk]
  exact ⟨rfl, rfl⟩
theorem tells_row {B On prc c2 : Nat} {w : World} {PL L : List RowR} {pr a2 : Option Addr} (h1 : RowsOwn B w PL (.slice pr On prc)) (hPL : PL.length = On) (h2 : RefRowsAt w a2 c2 L) (hm : PL.map Prod.fst = ((L.map Prod.fst).take On).map RRec.plain)
    (hle : On ≤ L.length) (hc : ∀ r ∈ L.map Prod.fst, r.code = 0) (k : Nat) (hk : k < On) :
    ∃ (r : RRec) (b o b2 o2 : Nat) (a : Option Addr) (c : Nat) (a' : Option Addr) (c' : Nat), r.Fits ∧ r.code = 0 ∧ pr = some ⟨b, o, none⟩ ∧ w.rangeAt b (o + k * 10) (r.plain.arr a c).toList ∧ SlA w a r.plain.target.length c (strVs r.plain.target) ∧
      a2 = some ⟨b2, o2, none⟩ ∧ w.rangeAt b2 (o2 + k * 10) (r.refArr a' c').toList ∧ SlA w a' r.target.length c' (strVs r.target) := by
  have hkL : k < L.length := by omega
  have hkP : k < PL.length := by omega
  obtain ⟨b2, o2, e2, hr2⟩ := h2.at k hkL
  obtain ⟨ar, cr, er, hs, -⟩ := SlA.of_own h1.row
  have e3 : pr = ar := by injection er
  have hs' : SlA w pr PL.length cr (PL.flatMap RowR.cells) := by rw [e3]; exact hs
  obtain ⟨b, o, e1, hr1⟩ := SlA.elem (f := RowR.cells) (n := 10) (fun x => rfl) (by decide) hs' k hkP
  have hx : (PL[k]).1 = (L[k]).1.plain := by
    have h := congrArg (fun l => l[k]?) hm
    simp only [List.getElem?_map, List.getElem?_take, if_pos hk, List.getElem?_eq_getElem hkL, List.getElem?_eq_getElem hkP, Option.map_some] at h
    exact Option.some.inj h
  have ht := h1.tgt PL[k] (List.getElem_mem hkP)
  obtain ⟨at1, ct1, et1, hst1, -⟩ := SlA.of_own ht
  cases et1
  rw [hx] at hst1
  refine ⟨(L[k]).1, b, o, b2, o2, (PL[k]).2.1, (PL[k]).2.2, (L[k]).2.1, (L[k]).2.2, h2.fits _ (List.getElem_mem hkL), hc _ (List.mem_map_of_mem (List.getElem_mem hkL)), e1, ?_, hst1, e2, hr2, h2.tgt _ (List.getElem_mem hkL)⟩
  intro j v hv
  refine hr1 j v ?_
  rw [show RowR.cells PL[k] = (PL[k]).1.cells (PL[k]).2.1 (PL[k]).2.2 from rfl, hx]
  exact hv
set_option maxHeartbeats 16000000 in
set_option maxRecDepth 100000 in
theorem tells_tail {x : LQ} {a : Option Addr} {cap : Nat} {b : Option Addr} {capl : Nat} {LP : List RowR} {W : World} {rs : List RRec} {nm : List Lbl} {an : Option Addr} {cn : Nat} {L : List RowR} {a1 : Option Addr} {c1 : Nat} {a2 : Option Addr} {c2 : Nat} {q : Nat} {O1 : List UInt8} {On : Nat}
    (hOl : O1.length ≤ 512)
    (zo : (ByteArray.mk (O1.toArray)).size = O1.length) {pa : Option Addr} {pcap : Nat}
    (hRL : L.length = rs.length)
    (hOnL : On ≤ L.length) {pr : Option Addr} {prc : Nat} {pn : List Lbl} {pt : Int} {pc : Int} {ia : Int} {w8 : World}
    (F8 : Hid (Gr W w8)) {g : Nat} {cb : Bool} {wc : World} {u117 : Value} {u118 : Value} {u119 : Value} {u120 : Value} {u121 : Value} {u122 : Value} {u123 : Value} {u124 : Value} {u125 : Value} {u126 : Value} {u127 : Value} {u128 : Value} {u129 : Value} {u130 : Value} {u131 : Value} {u132 : Value} {u133 : Value} {u134 : Value} {u135 : Value} {u136 : Value} {u137 : Value} {u138 : Value} {u139 : Value} {u140 : Value} {u141 : Value} {u142 : Value} {u143 : Value} {u144 : Value} {u145 : Value} {u146 : Value}
    (TR : Hid (∀ (k : Nat), k < On → ∃ (r : RRec), ∃ (b : Nat), ∃ (o : Nat), ∃ (b2 : Nat), ∃ (o2 : Nat), ∃ (a : Option Addr), ∃ (c : Nat), ∃ (a' : Option Addr), ∃ (c' : Nat), r.Fits ∧ r.code = 0 ∧ pr = some { block := b, off := o } ∧ w8.rangeAt b (o + k * 10) (r.plain.arr a c).toList ∧ SlA w8 a r.plain.target.length c (strVs r.plain.target) ∧ a2 = some { block := b2, off := o2 } ∧ w8.rangeAt b2 (o2 + k * 10) (r.refArr a' c').toList ∧ SlA w8 a' r.target.length c' (strVs r.target)))
    (NX : Hid (∀ (h : On < L.length), ∃ (b2 : Nat), ∃ (o2 : Nat), a2 = some { block := b2, off := o2 } ∧ w8.rangeAt b2 (o2 + On * 10) (L[On].fst.refArr L[On].snd.fst L[On].snd.snd).toList ∧ SlA w8 L[On].snd.fst L[On].fst.target.length L[On].snd.snd (strVs L[On].fst.target) ∧ L[On].fst.Fits ∧ L[On].fst.code = 0 ∧ 512 < O1.length + L[On].fst.enc.length))
    (GX : Hid (Gr w8 wc))
    (hm8 : L.length ≤ c2)
    (hmx8 : c2 ≤ 9223372036854775807)
    (hm9 : On ≤ prc) {i5 : TypeInfo}
    (hir1 : Try.prog.info? 110 = some i5)
    (hir3 : i5.size = 10) {i6 : TypeInfo}
    (hiq1 : Try.prog.info? 112 = some i6)
    (hiq3 : i6.size = 10) :
    Code.wp Try.prog (codeAt [1, 1, 1, 1, 1, 1, 1, 1, 1, 0, 0] ((Try.f13).body.getD .skip)) (Exit.then (fun a w => Code.wp Try.prog (codeAt [1, 1, 1, 1, 1, 1, 1, 1, 1, 0, 1] ((Try.f13).body.getD .skip)) (Exit.then (fun a w => Code.wp Try.prog (codeAt [1, 1, 1, 1, 1, 1, 1, 1, 1, 1] ((Try.f13).body.getD .skip)) (bodyPost Try.prog Try.f13 fun (e : Ending) (w' : World) => e = Ending.returned (Value.bool true) ∧ Gr W w') a w) (bodyPost Try.prog Try.f13 fun (e : Ending) (w' : World) => e = Ending.returned (Value.bool true) ∧ Gr W w')) a w) (Exit.then (fun a w => Code.wp Try.prog (codeAt [1, 1, 1, 1, 1, 1, 1, 1, 1, 1] ((Try.f13).body.getD .skip)) (bodyPost Try.prog Try.f13 fun (e : Ending) (w' : World) => e = Ending.returned (Value.bool true) ∧ Gr W w') a w) (bodyPost Try.prog Try.f13 fun (e : Ending) (w' : World) => e = Ending.returned (Value.bool true) ∧ Gr W w'))) ⟨List.toArray (Value.agg (x.arr a cap) :: Value.slice b LP.length capl :: Value.pointer (some { block := W.heap.size, off := 0 }) :: undef :: Value.bool false :: Value.pointer (some { block := q, off := 0 }) :: Value.slice a1 rs.length c1 :: Value.pointer (some { block := q + 1, off := 0 }) :: Value.slice a2 rs.length c2 :: Value.string (ByteArray.mk (O1.toArray)) :: Value.int IntKind.i64 0 :: Value.string (ByteArray.mk (O1.toArray)) :: Value.int IntKind.i64 (↑On : Int) :: Value.int IntKind.i64 0 :: Value.pointer (some { block := g, off := 0 }) :: Value.int IntKind.i64 x.code :: Value.bool (decide (On < rs.length)) :: Value.slice pr On prc :: Value.int IntKind.i64 0 :: undef :: undef :: undef :: Value.bool true :: Value.bool false :: Value.tuple #[Value.agg (qCells x.hd x.asked an nm.length cn x.t x.c), Value.slice a1 rs.length c1, Value.agg (rqCells x.hd x.asked an nm.length cn x.t x.c), Value.slice a2 rs.length c2] :: Value.agg #[Value.int IntKind.u16 x.id, Value.int IntKind.u8 x.op, Value.bool x.des, Value.bool x.asked, Value.slice a x.name.length cap, Value.int IntKind.u16 x.t, Value.int IntKind.u16 x.c, Value.int IntKind.i64 x.code] :: Value.slice b LP.length capl :: Value.tuple #[Value.agg (qCells x.hd x.asked an nm.length cn x.t x.c), Value.slice a1 rs.length c1, Value.agg (rqCells x.hd x.asked an nm.length cn x.t x.c), Value.slice a2 rs.length c2] :: Value.agg (qCells x.hd x.asked an nm.length cn x.t x.c) :: Value.slice a1 rs.length c1 :: Value.agg (rqCells x.hd x.asked an nm.length cn x.t x.c) :: Value.slice a2 rs.length c2 :: Value.tuple #[Value.string (ByteArray.mk (O1.toArray)), Value.int IntKind.i64 0] :: Value.agg (qCells x.hd x.asked an nm.length cn x.t x.c) :: Value.pointer (some { block := W.heap.size, off := 7 }) :: Value.int IntKind.i64 x.code :: Value.slice a1 rs.length c1 :: Value.tuple #[Value.string (ByteArray.mk (O1.toArray)), Value.int IntKind.i64 0] :: Value.string (ByteArray.mk (O1.toArray)) :: Value.int IntKind.i64 0 :: Value.int IntKind.i64 0 :: Value.bool false :: undef :: undef :: Value.tuple #[Value.string (ByteArray.mk (O1.toArray)), Value.int IntKind.i64 (↑On : Int), Value.int IntKind.i64 0] :: Value.agg #[Value.int IntKind.u16 x.hd.id, Value.int IntKind.i64 x.hd.op, Value.bool x.hd.des, Value.bool x.asked, Value.slice an nm.length cn, Value.int IntKind.i64 x.t, Value.int IntKind.i64 x.c] :: Value.pointer (some { block := W.heap.size, off := 7 }) :: Value.int IntKind.i64 x.code :: Value.slice a2 rs.length c2 :: Value.tuple #[Value.string (ByteArray.mk (O1.toArray)), Value.int IntKind.i64 (↑On : Int), Value.int IntKind.i64 0] :: Value.string (ByteArray.mk (O1.toArray)) :: Value.int IntKind.i64 (↑On : Int) :: Value.int IntKind.i64 0 :: Value.tuple #[Value.agg (qCells { id := x.hd.id, resp := false, op := x.hd.op, auth := false, trunc := false, des := x.hd.des, avail := false, zero := 0, code := 0, c0 := ia, c1 := 0, c2 := 0, c3 := 0 } x.asked pa pn.length pcap pt pc), Value.int IntKind.i64 (bldHd x.hd x.asked x.code On cb).code, Value.bool (bldHd x.hd x.asked x.code On cb).trunc, Value.slice pr On prc, Value.int IntKind.i64 0] :: Value.string (ByteArray.mk (O1.toArray)) :: Value.tuple #[Value.agg (qCells { id := x.hd.id, resp := false, op := x.hd.op, auth := false, trunc := false, des := x.hd.des, avail := false, zero := 0, code := 0, c0 := ia, c1 := 0, c2 := 0, c3 := 0 } x.asked pa pn.length pcap pt pc), Value.int IntKind.i64 (bldHd x.hd x.asked x.code On cb).code, Value.bool (bldHd x.hd x.asked x.code On cb).trunc, Value.slice pr On prc, Value.int IntKind.i64 0] :: Value.agg (qCells { id := x.hd.id, resp := false, op := x.hd.op, auth := false, trunc := false, des := x.hd.des, avail := false, zero := 0, code := 0, c0 := ia, c1 := 0, c2 := 0, c3 := 0 } x.asked pa pn.length pcap pt pc) :: Value.int IntKind.i64 x.code :: Value.bool (decide (On < rs.length)) :: Value.slice pr On prc :: Value.int IntKind.i64 0 :: Value.int IntKind.i64 0 :: Value.bool false :: Value.bool false :: Value.int IntKind.i64 x.code :: Value.pointer (some { block := W.heap.size, off := 7 }) :: Value.int IntKind.i64 x.code :: Value.bool false :: Value.bool false :: Value.bool false :: Value.bool (decide (On < rs.length)) :: Value.int IntKind.i64 (↑On : Int) :: Value.slice a1 rs.length c1 :: Value.int IntKind.i64 (↑rs.length : Int) :: Value.bool (decide (On < rs.length)) :: Value.bool false :: Value.bool false :: Value.bool false :: Value.slice pr On prc :: Value.int IntKind.i64 (↑On : Int) :: Value.int IntKind.i64 (↑On : Int) :: Value.bool false :: Value.bool false :: Value.bool false :: Value.pointer (some { block := g, off := 13 }) :: Value.bool x.asked :: Value.pointer (some { block := q, off := 13 }) :: Value.bool x.asked :: Value.bool false :: Value.bool false :: Value.bool false :: Value.pointer (some { block := g, off := 0 }) :: Value.pointer (some { block := g, off := 0 }) :: Value.int IntKind.u16 x.hd.id :: Value.pointer (some { block := q, off := 0 }) :: Value.pointer (some { block := q, off := 0 }) :: Value.int IntKind.u16 x.hd.id :: Value.bool false :: Value.bool false :: Value.bool false :: Value.pointer (some { block := g, off := 0 }) :: Value.pointer (some { block := g, off := 2 }) :: Value.int IntKind.u8 x.hd.op :: Value.pointer (some { block := q, off := 0 }) :: Value.pointer (some { block := q, off := 2 }) :: Value.int IntKind.u8 x.hd.op :: Value.bool false :: Value.bool false :: Value.bool false :: Value.pointer (some { block := g, off := 0 }) :: Value.pointer (some { block := g, off := 5 }) :: Value.bool x.hd.des :: Value.pointer (some { block := q, off := 0 }) :: Value.pointer (some { block := q, off := 5 }) :: Value.bool x.hd.des :: Value.bool false :: Value.bool false :: u117 :: u118 :: u119 :: u120 :: u121 :: u122 :: u123 :: u124 :: u125 :: u126 :: u127 :: u128 :: u129 :: u130 :: u131 :: u132 :: u133 :: u134 :: u135 :: u136 :: u137 :: u138 :: u139 :: u140 :: u141 :: u142 :: u143 :: u144 :: u145 :: u146 :: Value.bool false :: undef :: undef :: undef :: undef :: undef :: undef :: undef :: undef :: undef :: undef :: undef :: undef :: undef :: undef :: undef :: undef :: undef :: undef :: undef :: undef :: undef :: undef :: undef :: undef :: undef :: undef :: undef :: undef :: undef :: undef :: []), []⟩ wc := by
  conv => arg 2; whnf
  go_wp2_with fail
  conv => arg 2; whnf
  go_wp2_with fail
  go_loopw [19] (fun iv wr => ∃ k : Nat, iv = .int .i64 k ∧ k ≤ On ∧ Gr w8 wr) (fun iv _ => On - (intOf iv).toNat)
  case atStart => exact ⟨0, rfl, Nat.zero_le _, GX.out⟩
  case round =>
    obtain ⟨k, rfl, hk, fr⟩ := hrel
    by_cases hlt : k < On
    · obtain ⟨r, b5, o5, b6, o6, ra, rc, ra', rc', hrf, hrc, rfl, hr1, hs1, rfl, hr2, hs2⟩ := TR.out k hlt
      have R1 : Hid (∀ w, Gr wr w → w.rangeAt b5 (o5 + k * 10) (r.plain.arr ra rc).toList) := Lib.hid (fun w f j v hv => (Gr.trans fr f).cell (hr1 j v hv) (fun h => h))
      have R2 : Hid (∀ w, Gr wr w → w.rangeAt b6 (o6 + k * 10) (r.refArr ra' rc').toList) := Lib.hid (fun w f j v hv => (Gr.trans fr f).cell (hr2 j v hv) (fun h => h))
      have CS : Hid (∀ w, Gr wr w → Calls Try.prog 42 #[.agg (r.plain.arr ra rc), .agg (r.refArr ra' rc')] w fun e w' => e = .returned (.bool true) ∧ Gr w w') := Lib.hid (fun w f => same24_any r hrf hrc ra rc ra' rc' w (hs1.keep (Gr.trans fr f) (fun _ _ h => h)) (hs2.keep (Gr.trans fr f) (fun _ _ h => h)))
      have hkL : k < rs.length := by omega
      have FR := Lib.hid fr
      have HK := Lib.hid hk
      clear hr1 hs1 hr2 hs2 hrf hrc fr TR NX GX F8 hk
      go_upto_region 16 with fail
      haveI : Nonempty (WC (Gr wr)) := ⟨⟨wr, Fr.refl _ _⟩⟩
      refine wp_region_plan [8] (Plan.seq (List.range 10) .done) (fun w' => ∃ z : WC (Gr wr), w' = z.val) (by kernel_rfl) (by kernel_rfl) (fun c a w d v h => by cases d <;> exact h) (fun c a w d v h => by cases d <;> exact h) ⟨⟨wr.drew, (Fr.refl _ _).drew⟩, rfl⟩ ?_
      simp only [Plan.seq, List.range, List.range.loop, List.foldr]
      refine wpV_q (by simp only [List.getElem?_toArray, List.getElem?_cons_zero] <;> rfl) (by rfl) (by rfl) ?_
      go_big_quiet_step (fail)
      refine wpQuiet_nil ?_
      refine wpV_q (by simp only [List.getElem?_toArray, List.getElem?_cons_succ, List.getElem?_cons_zero] <;> rfl) (by rfl) (by rfl) ?_
      go_big_quiet_step (fail)
      refine wpQuiet_nil ?_
      refine wpV_q (by simp only [List.getElem?_toArray, List.getElem?_cons_succ, List.getElem?_cons_zero] <;> rfl) (by rfl) (by rfl) ?_
      refine wpQuiet_indexAddr Try.underlying94 hir1 hir3 (by rfl) (by rfl) hlt ?_
      refine wpQuiet_nil ?_
      simp only [Act.put, List.setIfInBounds_toArray, List.set_cons_succ, List.set_cons_zero]
      refine wpV_q (by simp only [List.getElem?_toArray, List.getElem?_cons_succ, List.getElem?_cons_zero] <;> rfl) (by rfl) (by rfl) ?_
      refine wpQuiet_load_mid (by rfl) 110 _ (by rfl) b5 (o5 + k * 10) (by rfl) (r.plain.arr ra rc).toList _ (fun w ⟨z, hz⟩ => hz ▸ R1.out z.val z.ok) Try.underlying110 rfl Try.infoRRec ?_
      refine wpQuiet_nil ?_
      simp only [Act.put, List.setIfInBounds_toArray, List.set_cons_succ, List.set_cons_zero]
      refine wpV_q (by simp only [List.getElem?_toArray, List.getElem?_cons_succ, List.getElem?_cons_zero] <;> rfl) (by rfl) (by rfl) ?_
      go_big_quiet_step (fail)
      refine wpQuiet_nil ?_
      refine wpV_q (by simp only [List.getElem?_toArray, List.getElem?_cons_succ, List.getElem?_cons_zero] <;> rfl) (by rfl) (by rfl) ?_
      go_big_quiet_step (fail)
      refine wpQuiet_nil ?_
      refine wpV_q (by simp only [List.getElem?_toArray, List.getElem?_cons_succ, List.getElem?_cons_zero] <;> rfl) (by rfl) (by rfl) ?_
      refine wpQuiet_indexAddr Try.underlying97 hiq1 hiq3 (by rfl) (by rfl) hkL ?_
      refine wpQuiet_nil ?_
      simp only [Act.put, List.setIfInBounds_toArray, List.set_cons_succ, List.set_cons_zero]
      refine wpV_q (by simp only [List.getElem?_toArray, List.getElem?_cons_succ, List.getElem?_cons_zero] <;> rfl) (by rfl) (by rfl) ?_
      refine wpQuiet_load_mid (by rfl) 112 _ (by rfl) b6 (o6 + k * 10) (by rfl) (r.refArr ra' rc').toList _ (fun w ⟨z, hz⟩ => hz ▸ R2.out z.val z.ok) Try.underlying112 rfl Try.infoRefRRec ?_
      refine wpQuiet_nil ?_
      simp only [Act.put, List.setIfInBounds_toArray, List.set_cons_succ, List.set_cons_zero]
      refine wpV_e (by simp only [List.getElem?_toArray, List.getElem?_cons_succ, List.getElem?_cons_zero] <;> rfl) (by rfl) ?_
      go_wp2_with fail
      refine (CS.out _ ((Fr.refl _ _).drew)).mono ?_
      rintro e w9 ⟨rfl, f9⟩
      replace f9 : Gr wr w9 := Gr.trans ((Fr.refl _ _).drew) f9
      go_wp2_with fail
      refine ⟨⟨⟨w9, f9⟩, rfl⟩, ?_⟩
      refine wpV_q (by simp only [List.getElem?_toArray, List.getElem?_cons_succ, List.getElem?_cons_zero] <;> rfl) (by rfl) (by rfl) ?_
      go_big_quiet_step (fail)
      refine wpQuiet_nil ?_
      refine wpV_done ?_
      have G9 := Lib.hid (Gr.trans FR.out f9)
      clear f9 R1 R2 CS FR
      go_wp2_with fail
      go_roundw
      case rel => exact ⟨k + 1, by go_num, hlt, G9.out⟩
      case measure => simp [intOf]; omega
    · obtain rfl : k = On := by omega
      have FR := Lib.hid fr
      clear fr
      go_wp2_with fail
      conv => arg 2; whnf
      by_cases hc : k < rs.length
      · rw [decide_eq_true hc]
        obtain ⟨b6, o6, rfl, hr2, hs2, hrf, hrc, hnx⟩ := NX.out (by omega)
        have hkL : k < L.length := by omega
        generalize L[k] = y at *
        obtain ⟨r, ra, rc⟩ := y
        simp only at hr2 hs2 hrf hrc hnx
        have R2 : Hid (wr.rangeAt b6 (o6 + k * 10) (r.refArr ra rc).toList) := Lib.hid (fun j v hv => FR.out.cell (hr2 j v hv) (fun h => h))
        have CB : Hid (Calls Try.prog 43 #[.agg (r.refArr ra rc)] wr fun e w' => e = .returned (.tuple #[.string ⟨r.enc.toArray⟩, .int .i64 0]) ∧ Gr wr w') := Lib.hid ((refBytes24_any r ra rc wr (hs2.keep FR.out (fun _ _ h => h)) hrf).mono (by
          rintro e w' ⟨h, g⟩
          unfold RRec.out at h
          rw [hrc, if_pos rfl] at h
          exact ⟨h, g⟩))
        have hel : r.enc.length ≤ 100000 := by have := r.enc_length; have := r.data_le hrc; omega
        clear hr2 hs2 hrf hrc TR NX
        generalize r.enc = enc at *
        have ze := mk_size enc
        go_upto_region 19 with fail
        refine wp_region_lit ?_
        refine wpList_move ?_
        refine wpList_move ?_
        refine wpList_indexAddr Try.underlying97 hiq1 hiq3 (by rfl) (by rfl) hc ?_
        refine wpList_load_mid (by rfl) 112 _ (by rfl) b6 (o6 + k * 10) (by rfl) (r.refArr ra rc).toList _ R2.out Try.underlying112 rfl Try.infoRefRRec ?_
        go_wp2_with fail
        refine CB.out.mono ?_
        rintro e w9 ⟨rfl, f9⟩
        have F9 := Lib.hid (Gr.trans F8.out (Gr.trans FR.out f9))
        clear f9 CB R2 FR
        go_wp2_with fail
        have hd : decide ((512 : Int) < (O1.length : Int) + (enc.length : Int)) = true := by simp; omega
        rw [hd]
        go_ret
        exact ⟨rfl, F9.out⟩
      · rw [decide_eq_false hc]
        have F9 := Lib.hid (Gr.trans F8.out FR.out)
        clear FR TR NX
        go_wp2_with fail
        go_ret
        exact ⟨rfl, F9.out⟩
end Go.Proofs.Ytkclgemkeifbaaa
