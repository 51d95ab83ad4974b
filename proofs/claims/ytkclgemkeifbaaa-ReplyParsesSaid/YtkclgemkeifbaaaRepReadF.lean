/-
  Package reply: read (printed by gen_repreadf.py).
-/
import Derived.Test.YtkclgemkeifbaaaRepRead
import Derived.Test.YtkclgemkeifbaaaRegionZ
namespace Go.Proofs.Ytkclgemkeifbaaa
open Go.RowKit Go.Proofs

def hdAsked (h : Hd) (asked : Bool) : Hd := if asked = true then { h with c0 := 1 } else h
/-- what read does with the query at q -/
def ReadEnd (q : Nat) (hq : Hd) (D : RdQ) (w : World) (e : Ending) (w' : World) : Prop :=
  Fr (fun k => k = q) w w' ∧ ∃ a cap L v, w'.ownsRow w.heap.size 9 1 (.slice a D.name.length cap) D.name.length (strVs D.name) ∧
    w'.heap[q]? = some (.cells (qCells (hdAsked hq D.asked) D.asked a D.name.length cap D.t D.c) 67 (0, 0)) ∧
    L.map Prod.fst = D.l ∧ RowsOwn w.heap.size w' L v ∧ e = .returned (.tuple #[v, .int .i64 D.e])

/-- pack.Read of the call -/
theorem readPack_any (q gq gc go : Nat) (hq : Hd) (asked : Bool) (a : Option Addr) (nc cap : Nat) (c0 c1 c2 c3 : Int) (u : List UInt8) (W : World)
    (hqb : W.heap[q]? = some (.cells (qCells hq asked a nc cap 0 0) 67 (0, 0))) (hgq : W.cell? ⟨gq, 0, none⟩ = some (.pointer (some ⟨q, 0, none⟩))) (hgc : Bx W gc [.int .u16 c0, .int .u16 c1, .int .u16 c2, .int .u16 c3])
    (hgo : W.heap[go]? = some (.cells #[.slice none 0 0] 94 (0, 0))) (d2 : q ≠ gq ∧ q ≠ gc ∧ q ≠ go) (d3 : gq ≠ gc ∧ gq ≠ go) (d4 : gc ≠ go) (hc1 : 0 ≤ c1 ∧ c1 ≤ 65535) (hu : u.length ≤ 100000) :
    Calls Try.prog 53 #[.string ⟨u.toArray⟩, .func (.func 112) #[] #[.pointer (some ⟨gq, 0, none⟩), .pointer (some ⟨gc, 0, none⟩), .pointer (some ⟨go, 0, none⟩)]] W fun e w' =>
      Fr (fun k => k = q ∨ k = go) W w' ∧ w'.heap[q]? = some (.cells (qCells hq asked a nc cap (bodyO asked u c1.toNat).1 (bodyO asked u c1.toNat).2.1) 67 (0, 0)) ∧
      ∃ L v, L.map Prod.fst = (bodyO asked u c1.toNat).2.2.1 ∧ RowsOwn W.heap.size w' L v ∧ w'.heap[go]? = some (.cells #[v] 94 (0, 0)) ∧ e = .returned (.int .i64 (bodyO asked u c1.toNat).2.2.2.code) := by
  have l1 : q < W.heap.size := (Array.getElem?_eq_some_iff.1 hqb).1
  have l2 := lt_of_cell hgq
  have l3 := lt_of_cell (hgc 0 _ rfl)
  have l4 : go < W.heap.size := (Array.getElem?_eq_some_iff.1 hgo).1
  simp only at l2 l3
  obtain ⟨O, hO⟩ : ∃ O, O = bodyO asked u c1.toNat := ⟨_, rfl⟩
  have HNE : ∀ c, O.2.2.2 = .err c → c ≠ 0 := fun c h => bodyO_ne (by rw [← hO]; exact h)
  rw [← hO]
  refine (packReadX_any ⟨u.toArray⟩ 112 #[.pointer (some ⟨gq, 0, none⟩), .pointer (some ⟨gc, 0, none⟩), .pointer (some ⟨go, 0, none⟩)] W (fun k => k = q ∨ k = go)
    (fun x w' => x.ending = .returned (.int .i64 O.2.2.2.code) ∧ w'.heap[q]? = some (.cells (qCells hq asked a nc cap O.1 O.2.1) 67 (0, 0)) ∧
      ∃ L v, L.map Prod.fst = O.2.2.1 ∧ RowsOwn (W.heap.size + 4) w' L v ∧ w'.heap[go]? = some (.cells #[v] 94 (0, 0)))
    (by rw [mk_size]; omega) (fun a w => enters_fn Try.func112 (by kernel_rfl) rfl _ w) (fun k h => by omega) (fun w2 f2 hz2 h2 => ?_)).mono ?_
  · refine (rread1_any (W.heap.size + 1) q gq gc go hq asked a nc cap c0 c1 c2 c3 u w2 (by omega) ⟨Fr.refl _ _, h2, by rw [f2.block q l1 (fun h => h)]; exact hqb, f2.cell hgq (fun h => h), hgc.keep f2 (fun h => h), RowsOwn.nil _ _, by rw [f2.block go l4 (fun h => h)]; exact hgo⟩
      (by omega) d2 d3 d4 hc1 hu).mono ?_
    rintro e w' ⟨f, hb, L, v, hL, hown, hgo', hend⟩
    rw [← hO] at hb hL hend
    refine ⟨f.mono (fun k _ h => by rcases h with h | h | h; left; unfold wS; omega; exact .inr (.inl h); exact .inr (.inr h)), ?_⟩
    cases ho : O.2.2.2 with
    | err c =>
      rw [ho] at hend
      subst hend
      exact ⟨_, .ref c (HNE c ho), rfl, hb, L, v, hL, hown.base hz2, hgo'⟩
    | ok rest =>
      rw [ho] at hend
      obtain ⟨rfl, hr⟩ := hend
      exact ⟨_, .ok _ hr, by simp only [ROut.ending, RAll.code, mk_size], hb, L, v, hL, hown.base hz2, hgo'⟩
  · rintro e w' ⟨w0, x, ⟨hx, hb, L, v, hL, hown, hgo'⟩, rfl, f0, hs0, f⟩
    refine ⟨f.mono (fun k hk h => by rcases h with h | h; omega; exact h), by rw [f0.block q (by omega) (by omega)]; exact hb, L, v, hL, ?_, by rw [f0.block go (by omega) (by omega)]; exact hgo', hx⟩
    exact (hown.keep f0 (fun k hk => by omega)).base (by omega)

set_option maxHeartbeats 8000000 in
set_option maxRecDepth 100000 in
theorem read_any (q : Nat) (hq : Hd) (s : List UInt8) (c0 c1 c2 c3 : Int) (W : World) (hqb : W.heap[q]? = some (.cells (qCells hq false none 0 0 0 0) 67 (0, 0))) (h12 : 12 ≤ s.length) (hs : s.length ≤ 100000)
    (hc0 : 0 ≤ c0 ∧ c0 ≤ 65535) (hc1 : 0 ≤ c1 ∧ c1 ≤ 65535) :
    Calls Try.prog 75 #[.string ⟨s.toArray⟩, .pointer (some ⟨q, 0, none⟩), .agg #[.int .u16 c0, .int .u16 c1, .int .u16 c2, .int .u16 c3]] W (ReadEnd q hq (rdReply s c0 c1) W) := by
  have hmf := makeFunc_run
  have hlq : q < W.heap.size := (Array.getElem?_eq_some_iff.1 hqb).1
  obtain ⟨w1, hw1⟩ : ∃ w1, w1 = (W.alloc (.cells #[.pointer (some ⟨q, 0, none⟩)] 159)).alloc (.cells #[.int .u16 c0, .int .u16 c1, .int .u16 c2, .int .u16 c3] 62) := ⟨_, rfl⟩
  have f1 : Gr W w1 := by rw [hw1]; exact ((Fr.refl _ _).alloc _).alloc _
  have P1 := Lib.hid (show w1.cell? ⟨W.heap.size, 0, none⟩ = some (.pointer (some ⟨q, 0, none⟩)) by rw [World.cell?, hw1, heap_alloc_if, if_neg (by simp), heap_alloc_if, if_pos rfl]; rfl)
  have C1 := Lib.hid (show Bx w1 (W.heap.size + 1) [.int .u16 c0, .int .u16 c1, .int .u16 c2, .int .u16 c3] from Bx.of_block (fr := (0, 0)) (e := 62) (cs := #[.int .u16 c0, .int .u16 c1, .int .u16 c2, .int .u16 c3]) (by rw [hw1, heap_alloc_if, if_pos (by simp)]))
  have Q1 := Lib.hid (show w1.heap[q]? = some (.cells (qCells hq false none 0 0 0 0) 67 (0, 0)) by rw [f1.block q hlq (fun h => h)]; exact hqb)
  have F1 := Lib.hid (Fr.mono (T := fun k => k = q) f1 (fun _ _ h => h.elim))
  have s1 : W.heap.size + 2 ≤ w1.heap.size := by rw [hw1]; simp
  have HW1 := Lib.hid hw1
  have zs := mk_size s
  have y0 := C1.out 0 _ rfl
  obtain ⟨D, hD⟩ : ∃ D, D = rdReply s c0 c1 := ⟨_, rfl⟩
  rw [← hD]
  unfold rdReply at hD
  have HD := Lib.hid hD
  clear hD hw1 f1 hqb
  by_cases hc : c0 = 1
  · subst hc
    have CN := Lib.hid (nmRead_any s 12 h12 hs w1)
    have HROK := Lib.hid (fun l k (h : rd s 12 12 [] = .ok l k) => rd_ok h mayL_nil)
    have HRE := Lib.hid (fun c (h : rd s 12 12 [] = .err c) => rd_err h)
    rw [if_pos rfl] at HD
    generalize rd s 12 12 [] = r at *
    go_enter Try.func75, Try.ntmps75
    go_upto_region 1 with fail
    rw [← HW1.out]
    clear HW1
    go_wp2_with fail
    refine CN.out.mono ?_
    rintro e w2 ⟨f2, h2⟩
    have P2 := Lib.hid (f2.cell P1.out (fun h => h))
    have C2 := Lib.hid (C1.out.keep f2 (fun h => h))
    have Q2 := Lib.hid (show w2.heap[q]? = some (.cells (qCells hq false none 0 0 0 0) 67 (0, 0)) by rw [f2.block q (by omega) (fun h => h)]; exact Q1.out)
    have F2 := Lib.hid (F1.out.trans f2 (fun k h => h.elim))
    have s2 := f2.size
    clear f2 P1 C1 Q1 F1 CN y0
    cases r with
    | err c =>
      have hD : D = ⟨false, [], 0, 0, [], c⟩ := HD.out
      subst hD
      simp only at h2
      subst h2
      have hcb : (c == 0) = false := by rcases HRE.out c rfl with rfl | rfl | rfl | rfl <;> rfl
      clear HD HROK HRE
      go_wp2_with fail
      go_ret2
      exact ⟨F2.out, none, 0, [], .slice none 0 0, World.ownsRow_nil _ _ _ _, Q2.out, rfl, RowsOwn.nil _ _, rfl⟩
    | ok l k =>
      obtain ⟨v, rfl, o2⟩ := h2
      obtain ⟨hml, hk12, hks⟩ := HROK.out l k rfl
      obtain ⟨a, cap, rfl, -⟩ := SlA.of_own o2
      have hD : D = rdBody true l (s.drop k) c1.toNat := HD.out
      rw [rdBody_eq] at hD
      have HD2 := Lib.hid hD
      have O2 := Lib.hid (own_base o2 (show W.heap.size ≤ w1.heap.size by omega))
      have x13 : w2.cell? ⟨q, 13, none⟩ = some (.bool false) := by rw [Lib.cell_of_heap Q2.out]; rfl
      have x14 : w2.cell? ⟨q, 14, none⟩ = some (.slice none 0 0) := by rw [Lib.cell_of_heap Q2.out]; rfl
      have z13 : w2.frozen? ⟨q, 13, none⟩ = false := Lib.frozen_of_heap Q2.out 13
      have z14 : w2.frozen? ⟨q, 14, none⟩ = false := Lib.frozen_of_heap Q2.out 14
      have g0 := (Fr.refl (fun j => j = q) w2).setCell (p := ⟨q, 13, none⟩) (.inl rfl) (.bool true)
      have g1 := g0.setCell (p := ⟨q, 14, none⟩) (.inl rfl) (.slice a l.length cap)
      have G0 := Lib.hid g0
      have G1 := Lib.hid g1
      have B6 := Lib.hid (blk_set (blk_set Q2.out 13 (.bool true)) 14 (.slice a l.length cap))
      have p2 := P2.out
      haveI : Nonempty (WC (Fr (fun j => j = q) w2)) := ⟨⟨w2, Fr.refl _ _⟩⟩
      have y0 : ∀ z : WC (Fr (fun j => j = q) w2), z.val.cell? ⟨W.heap.size, 0, none⟩ = some (.pointer (some ⟨q, 0, none⟩)) := fun z => z.ok.cell p2 (by simp only; omega)
      clear hD HD HROK HRE o2 g0 g1
      go_upto_region 6 with fail
      refine wp_region_plan [6, 9] (Plan.seq (List.range 11) .done) (fun w' => ∃ z : WC (Fr (fun j => j = q) w2), w' = z.val) (by kernel_rfl) (by kernel_rfl) (fun c a w d v h => by cases d <;> exact h) (fun c a w d v h => by cases d <;> exact h) ⟨⟨w2.drew, (Fr.refl _ _).drew⟩, rfl⟩ ?_
      simp only [Plan.seq, List.range, List.range.loop, List.foldr]
      repeat (refine wpV_q (by simp only [List.getElem?_toArray, List.getElem?_cons_succ, List.getElem?_cons_zero] <;> rfl) (by rfl) (by rfl) ?_; go_big_quiet_step (fail); refine wpQuiet_nil ?_)
      refine wpV_e (by simp only [List.getElem?_toArray, List.getElem?_cons_succ, List.getElem?_cons_zero] <;> rfl) (by rfl) ?_
      go_wp2_with fail
      refine ⟨⟨⟨_, G0.out.drew⟩, rfl⟩, ?_⟩
      repeat (refine wpV_q (by simp only [List.getElem?_toArray, List.getElem?_cons_succ, List.getElem?_cons_zero] <;> rfl) (by rfl) (by rfl) ?_; go_big_quiet_step (fail); refine wpQuiet_nil ?_)
      refine wpV_e (by simp only [List.getElem?_toArray, List.getElem?_cons_succ, List.getElem?_cons_zero] <;> rfl) (by rfl) ?_
      go_wp2_with fail
      refine ⟨⟨⟨_, G1.out.drew⟩, rfl⟩, ?_⟩
      repeat (refine wpV_q (by simp only [List.getElem?_toArray, List.getElem?_cons_succ, List.getElem?_cons_zero] <;> rfl) (by rfl) (by rfl) ?_; go_big_quiet_step (fail); refine wpQuiet_nil ?_)
      refine wpV_done ?_
      generalize hw5 : ((w2.setCell ⟨q, 13, none⟩ (.bool true)).setCell ⟨q, 14, none⟩ (.slice a l.length cap)).drew = w5
      have f5 : Fr (fun k => k = q) w2 w5 := by rw [← hw5]; exact G1.out.drew
      have B5 : Hid (w5.heap[q]? = some (.cells ((((qCells hq false none 0 0 0 0).setIfInBounds 13 (.bool true)).setIfInBounds 14 (.slice a l.length cap))) 67 (0, 0))) := Lib.hid (by rw [← hw5]; exact B6.out)
      have x9 : w5.cell? ⟨q, 9, none⟩ = some (.int .u16 hq.c0) := by rw [Lib.cell_of_heap B5.out]; rfl
      have z9 : w5.frozen? ⟨q, 9, none⟩ = false := Lib.frozen_of_heap B5.out 9
      have p5 := f5.cell p2 (by simp only; omega)
      have hs5 := f5.size
      clear hw5 x13 x14 z13 z14 G0 G1 B6 y0 this
      go_upto_region 8 with fail
      obtain ⟨w6, hw6⟩ : ∃ v, v = w5.setCell ⟨q, 9, none⟩ (.int .u16 1) := ⟨_, rfl⟩
      rw [← hw6]
      have f6 : Fr (fun k => k = q) w5 w6 := by rw [hw6]; exact fr_put _ _ _ _
      have f26 := f5.trans f6 (fun k h => .inl h)
      have uQ := Lib.hid (show w6.heap[q]? = some (.cells (qCells (hdAsked hq true) true a l.length cap 0 0) 67 (0, 0)) by rw [hw6]; exact blk_set B5.out 9 (.int .u16 1))
      have uP := Lib.hid (f26.cell P2.out (by simp only; omega))
      have uC := Lib.hid (C2.out.keep f26 (by omega))
      have uF := Lib.hid (F2.out.trans f26 (fun k h => .inl h))
      have uO := Lib.hid (own_fr O2.out f26 (fun q' hq' h => by have := (O2.out.lt q' hq').1; omega))
      have hs6 := f6.size
      clear x9 z9 p5 p2 f5 f6 f26 hw6 B5 P2 C2 F2 O2 Q2
      have OX : Hid (∀ q', (Value.slice a l.length cap).ownBlock = some q' → q' ≠ w6.heap.size) := Lib.hid (fun q' hq' h => by have := (uO.out.lt q' hq').2; omega)
      obtain ⟨w8, hw8⟩ : ∃ w8, w8 = w6.alloc (.cells #[.slice none 0 0] 94) := ⟨_, rfl⟩
      have f8 : Gr w6 w8 := by rw [hw8]; exact (Fr.refl _ _).alloc _
      have G8 : w8.heap[w6.heap.size]? = some (.cells #[.slice none 0 0] 94 (0, 0)) := by rw [hw8, heap_alloc_if, if_pos rfl]
      have hu : (s.drop k).length ≤ 100000 := by rw [List.length_drop]; omega
      have hx := ext_all s k
      have s8 : w6.heap.size < w8.heap.size := by rw [hw8]; simp
      have HP := Lib.hid (readPack_any q W.heap.size (W.heap.size + 1) w6.heap.size (hdAsked hq true) true a l.length cap 1 c1 c2 c3 (s.drop k) w8 (by rw [f8.block q (by omega) (fun h => h)]; exact uQ.out) (f8.cell uP.out (fun h => h)) (uC.out.keep f8 (fun h => h)) G8 (by omega) (by omega) (by omega) hc1 hu)
      have F8 := Lib.hid (uF.out.trans f8 (fun k h => h.elim))
      have HW8 := Lib.hid hw8
      have O8 := Lib.hid (own_fr uO.out f8 (fun _ _ h => h))
      clear f8 hw8 G8
      generalize s.drop k = u at *
      go_upto_region 9 with fail
      rw [← HW8.out]
      clear HW8
      go_wp2_with fail
      refine HP.out.mono ?_
      rintro e w9 ⟨f9, hb, L, v, hL, hown, hgo, rfl⟩
      obtain ⟨av, cv, rfl⟩ := hown.slice
      have F9 : Hid (Fr (fun k => k = q) W w9) := Lib.hid (F8.out.trans f9 (fun k h => by rcases h with h | h; exact .inl h; exact .inr (by omega)))
      have y12 : w9.cell? ⟨w6.heap.size, 0, none⟩ = some (.slice av L.length cv) := by rw [Lib.cell_of_heap hgo]; rfl
      have O9 := Lib.hid (own_fr O8.out f9 (fun q' hq' h => by have := (O8.out.lt q' hq').2; have := (O8.out.lt q' hq').1; rcases h with h | h; omega; exact OX.out q' hq' h))
      have R9 := Lib.hid (hown.base (show W.heap.size ≤ w8.heap.size by omega))
      have HB := Lib.hid hb
      have HL := Lib.hid hL
      clear f9 hb hL hown hgo HP F8 O8 OX
      go_wp2_with fail
      go_ret2
      have hD := HD2.out
      subst hD
      exact ⟨F9.out, a, cap, L, _, O9.out, HB.out, HL.out, R9.out, rfl⟩
  · rw [if_neg hc, rdBody_eq] at HD
    have hcb : (c0 == 1) = false := by simpa using hc
    have uQ := Q1
    have uP := P1
    have uC := C1
    have uF := F1
    have uO := Lib.hid (World.ownsRow_nil (w := w1) W.heap.size 9 1)
    have OX : Hid (∀ q', (Value.slice none 0 0).ownBlock = some q' → q' ≠ w1.heap.size) := Lib.hid (fun q' hq' h => by cases hq')
    go_enter Try.func75, Try.ntmps75
    go_upto_region 1 with fail
    rw [← HW1.out]
    clear HW1
    go_upto_region 8 with fail
    obtain ⟨w8, hw8⟩ : ∃ w8, w8 = w1.alloc (.cells #[.slice none 0 0] 94) := ⟨_, rfl⟩
    have f8 : Gr w1 w8 := by rw [hw8]; exact (Fr.refl _ _).alloc _
    have G8 : w8.heap[w1.heap.size]? = some (.cells #[.slice none 0 0] 94 (0, 0)) := by rw [hw8, heap_alloc_if, if_pos rfl]
    have hu : (s.drop 12).length ≤ 100000 := by rw [List.length_drop]; omega
    have hx := ext_all s 12
    have s8 : w1.heap.size < w8.heap.size := by rw [hw8]; simp
    have HP := Lib.hid (readPack_any q W.heap.size (W.heap.size + 1) w1.heap.size hq false none 0 0 c0 c1 c2 c3 (s.drop 12) w8 (by rw [f8.block q (by omega) (fun h => h)]; exact uQ.out) (f8.cell uP.out (fun h => h)) (uC.out.keep f8 (fun h => h)) G8 (by omega) (by omega) (by omega) hc1 hu)
    have F8 := Lib.hid (uF.out.trans f8 (fun k h => h.elim))
    have HW8 := Lib.hid hw8
    have O8 := Lib.hid (own_fr uO.out f8 (fun _ _ h => h))
    clear f8 hw8 G8
    generalize s.drop 12 = u at *
    go_upto_region 9 with fail
    rw [← HW8.out]
    clear HW8
    go_wp2_with fail
    refine HP.out.mono ?_
    rintro e w9 ⟨f9, hb, L, v, hL, hown, hgo, rfl⟩
    obtain ⟨av, cv, rfl⟩ := hown.slice
    have F9 : Hid (Fr (fun k => k = q) W w9) := Lib.hid (F8.out.trans f9 (fun k h => by rcases h with h | h; exact .inl h; exact .inr (by omega)))
    have y12 : w9.cell? ⟨w1.heap.size, 0, none⟩ = some (.slice av L.length cv) := by rw [Lib.cell_of_heap hgo]; rfl
    have O9 := Lib.hid (own_fr O8.out f9 (fun q' hq' h => by have := (O8.out.lt q' hq').2; have := (O8.out.lt q' hq').1; rcases h with h | h; omega; exact OX.out q' hq' h))
    have R9 := Lib.hid (hown.base (show W.heap.size ≤ w8.heap.size by omega))
    have HB := Lib.hid hb
    have HL := Lib.hid hL
    clear f9 hb hL hown hgo HP F8 O8 OX
    go_wp2_with fail
    go_ret2
    have hD := HD.out
    subst hD
    exact ⟨F9.out, none, 0, L, _, O9.out, HB.out, HL.out, R9.out, rfl⟩
end Go.Proofs.Ytkclgemkeifbaaa
