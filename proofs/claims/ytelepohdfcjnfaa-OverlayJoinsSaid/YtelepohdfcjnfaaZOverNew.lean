/-
  Package overlay: in, Good, New (printed by gen_ov2.py).
-/
import Derived.Test.YtelepohdfcjnfaaZOver
import Derived.Test.YtelepohdfcjnfaaZViewFn
import Derived.Test.YtelepohdfcjnfaaZSetSpec
import Derived.Deep.CutRange
namespace Go.Proofs.Ytelepohdfcjnfaa
open Go.RowKit Go.Proofs

abbrev Cf.arr (c : Cf) (sa : Option Addr) (sc : Nat) : Array Value := #[.int .i64 c.active, .int .i64 c.passive, .int .i64 c.far, .int .i64 c.near, .int .i64 c.mixA, .int .i64 c.mixP, .int .i64 c.every, .slice sa c.seeds.length sc]
theorem Try.infoConfig : (Try.prog.info? 64).map (·.size) = some 8 := by kernel_rfl
set_option maxHeartbeats 4000000 in
set_option maxRecDepth 100000 in
theorem ovIn_any (n a b : Int) (w : World) : Calls Try.prog 52 #[.int .i64 n, .int .i64 a, .int .i64 b] w fun e w' => e = .returned (.bool (cIn n a b)) ∧ Gr w w' := by
  unfold cIn
  go_enter Try.func52, Try.ntmps52
  by_cases h1 : a ≤ n
  · have d1 : decide (a ≤ n) = true := decide_eq_true h1
    rw [d1]
    go_wp2_with fail
    go_ret
    exact ⟨by simp, Fr.refl _ _⟩
  · have d1 : decide (a ≤ n) = false := decide_eq_false h1
    rw [d1]
    go_wp2_with fail
    go_ret
    exact ⟨rfl, Fr.refl _ _⟩
theorem ovGood1_any (n : Int) (w : World) : Calls Try.prog 81 #[.int .i64 n] w fun e w' => e = .returned (.bool (!cIn n 1 65535)) ∧ Gr w w' := by
  have CI := Lib.hid (fun w => ovIn_any n 1 65535 w)
  go_enter Try.func81, Try.ntmps81
  go_wp2_with fail
  refine (CI.out _).mono ?_
  rintro e w2 ⟨rfl, f_⟩
  have F2 := Lib.hid f_
  clear f_ CI
  go_wp2_with fail
  go_ret
  exact ⟨rfl, F2.out⟩
theorem ovNew1_any (b : Nat) (self x : Int) (w : World) (hc : w.cell? ⟨b, 0, none⟩ = some (.int .i64 self)) : Calls Try.prog 55 #[.int .i64 x, .pointer (some ⟨b, 0, none⟩)] w fun e w' => e = .returned (.bool (x == self)) ∧ Gr w w' := by
  go_enter Try.func55, Try.ntmps55
  go_wp2_with fail
  go_ret
  exact ⟨rfl, Fr.refl _ _⟩
theorem containsFuncP_any (F : FuncId) (p : Int → Bool) (a : Option Addr) (cap : Nat) (l : List Int) (w : World) (h : SlA w a l.length cap (ints l)) (hp : PredI F #[] p (fun _ => False) w) :
    Calls Try.prog 80 #[.slice a l.length cap, .func (.func F) #[] #[]] w fun e w' => e = .returned (.bool (l.any p)) ∧ Fr (fun _ => False) w w' := by
  have HI := Lib.hid (indexFunc_any F #[] p _ a cap l w h hp)
  have HD := Lib.hid (idxF_any p l)
  obtain ⟨z, hz⟩ : ∃ z, z = idxF p l := ⟨_, rfl⟩
  rw [← hz] at HI HD
  clear h hp hz
  go_enter Try.func80, Try.ntmps80
  go_wp2_with fail
  refine HI.out.mono ?_
  rintro e w2 ⟨rfl, f⟩
  have F2 := Lib.hid f
  clear f HI
  go_wp2_with fail
  go_ret
  exact ⟨by rw [HD.out]; rfl, F2.out⟩
set_option maxHeartbeats 4000000 in
set_option maxRecDepth 100000 in
theorem ovGood_any (c : Cf) (sa : Option Addr) (sc : Nat) (W : World) (h : SlA W sa c.seeds.length sc (ints c.seeds)) : Calls Try.prog 51 #[.agg (c.arr sa sc)] W fun e w' => e = .returned (.bool (cGood c)) ∧ Gr W w' := by
  obtain ⟨w1, hw1⟩ : ∃ w1, w1 = W.alloc (.cells (c.arr sa sc) 64) := ⟨_, rfl⟩
  have F1 := Lib.hid (show Gr W w1 by rw [hw1]; exact (Fr.refl _ _).alloc _)
  have B1 := Lib.hid (show w1.heap[W.heap.size]? = some (.cells (c.arr sa sc) 64 (0, 0)) by rw [hw1, heap_alloc_if, if_pos rfl])
  have HW1 := Lib.hid hw1
  have HS := Lib.hid h
  have l1 := h.le
  have l2 := h.max
  have HY := Lib.hid (fun w (f : Gr w1 w) (j : Nat) (v : Value) (hv : (c.arr sa sc)[j]? = some v) => show w.cell? ⟨W.heap.size, j, none⟩ = some v from f.cell ((Bx.of_block B1.out) j v (by simpa using hv)) (fun h => h))
  have HP := Lib.hid (fun w => show PredI 81 #[] (fun n => !cIn n 1 65535) (fun _ => False) w from ⟨fun args w => by rfl, fun x w' _ => ovGood1_any x w'⟩)
  have HGO := Lib.hid (show cGood c = (cIn c.active 2 64 && cIn c.passive 1 64 && cIn c.far 0 15 && cIn c.near 0 15 && cIn c.mixA 0 64 && cIn c.mixP 0 64 && cIn c.every 1 1000 && decide ((c.seeds.length : Int) ≤ 64) && !(c.seeds.any (fun n => !cIn n 1 65535))) from rfl)
  obtain ⟨gg, hgg⟩ : ∃ b, b = cGood c := ⟨_, rfl⟩
  rw [← hgg] at HGO ⊢
  have CI := Lib.hid (fun n a b w => ovIn_any n a b w)
  clear hw1 h hgg
  go_enter Try.func51, Try.ntmps51
  go_upto_region 1 with fail
  rw [← HW1.out]
  clear HW1
  have y : w1.cell? ⟨W.heap.size, 0, none⟩ = some (.int .i64 c.active) := HY.out w1 (Fr.refl _ _) 0 _ rfl
  go_wp2_with fail
  refine (CI.out c.active 2 64 _).mono ?_
  rintro e v0 ⟨rfl, f_⟩
  clear y
  have Fv0 := Lib.hid (Gr.trans (Fr.refl _ _) f_)
  clear f_
  cases e0 : cIn c.active 2 64
  case false =>
    rw [e0] at HGO
    simp only [Bool.false_and] at HGO
    clear e0
    go_wp2_with fail
    go_ret
    exact ⟨by rw [HGO.out]; rfl, Gr.trans F1.out Fv0.out⟩
  case true =>
    rw [e0] at HGO
    clear e0
    have y : v0.cell? ⟨W.heap.size, 1, none⟩ = some (.int .i64 c.passive) := HY.out v0 Fv0.out 1 _ rfl
    go_wp2_with fail
    refine (CI.out c.passive 1 64 _).mono ?_
    rintro e v1 ⟨rfl, f_⟩
    clear y
    have Fv1 := Lib.hid (Gr.trans Fv0.out f_)
    clear f_
    cases e1 : cIn c.passive 1 64
    case false =>
      rw [e1] at HGO
      simp only [Bool.false_and, Bool.and_false] at HGO
      clear e1
      go_wp2_with fail
      go_ret
      exact ⟨by rw [HGO.out]; rfl, Gr.trans F1.out Fv1.out⟩
    case true =>
      rw [e1] at HGO
      clear e1
      have y : v1.cell? ⟨W.heap.size, 2, none⟩ = some (.int .i64 c.far) := HY.out v1 Fv1.out 2 _ rfl
      go_wp2_with fail
      refine (CI.out c.far 0 15 _).mono ?_
      rintro e v2 ⟨rfl, f_⟩
      clear y
      have Fv2 := Lib.hid (Gr.trans Fv1.out f_)
      clear f_
      cases e2 : cIn c.far 0 15
      case false =>
        rw [e2] at HGO
        simp only [Bool.false_and, Bool.and_false] at HGO
        clear e2
        go_wp2_with fail
        go_ret
        exact ⟨by rw [HGO.out]; rfl, Gr.trans F1.out Fv2.out⟩
      case true =>
        rw [e2] at HGO
        clear e2
        have y : v2.cell? ⟨W.heap.size, 3, none⟩ = some (.int .i64 c.near) := HY.out v2 Fv2.out 3 _ rfl
        go_wp2_with fail
        refine (CI.out c.near 0 15 _).mono ?_
        rintro e v3 ⟨rfl, f_⟩
        clear y
        have Fv3 := Lib.hid (Gr.trans Fv2.out f_)
        clear f_
        cases e3 : cIn c.near 0 15
        case false =>
          rw [e3] at HGO
          simp only [Bool.false_and, Bool.and_false] at HGO
          clear e3
          go_wp2_with fail
          go_ret
          exact ⟨by rw [HGO.out]; rfl, Gr.trans F1.out Fv3.out⟩
        case true =>
          rw [e3] at HGO
          clear e3
          have y : v3.cell? ⟨W.heap.size, 4, none⟩ = some (.int .i64 c.mixA) := HY.out v3 Fv3.out 4 _ rfl
          go_wp2_with fail
          refine (CI.out c.mixA 0 64 _).mono ?_
          rintro e v4 ⟨rfl, f_⟩
          clear y
          have Fv4 := Lib.hid (Gr.trans Fv3.out f_)
          clear f_
          cases e4 : cIn c.mixA 0 64
          case false =>
            rw [e4] at HGO
            simp only [Bool.false_and, Bool.and_false] at HGO
            clear e4
            go_wp2_with fail
            go_ret
            exact ⟨by rw [HGO.out]; rfl, Gr.trans F1.out Fv4.out⟩
          case true =>
            rw [e4] at HGO
            clear e4
            have y : v4.cell? ⟨W.heap.size, 5, none⟩ = some (.int .i64 c.mixP) := HY.out v4 Fv4.out 5 _ rfl
            go_wp2_with fail
            refine (CI.out c.mixP 0 64 _).mono ?_
            rintro e v5 ⟨rfl, f_⟩
            clear y
            have Fv5 := Lib.hid (Gr.trans Fv4.out f_)
            clear f_
            cases e5 : cIn c.mixP 0 64
            case false =>
              rw [e5] at HGO
              simp only [Bool.false_and, Bool.and_false] at HGO
              clear e5
              go_wp2_with fail
              go_ret
              exact ⟨by rw [HGO.out]; rfl, Gr.trans F1.out Fv5.out⟩
            case true =>
              rw [e5] at HGO
              clear e5
              have y : v5.cell? ⟨W.heap.size, 6, none⟩ = some (.int .i64 c.every) := HY.out v5 Fv5.out 6 _ rfl
              go_wp2_with fail
              refine (CI.out c.every 1 1000 _).mono ?_
              rintro e v6 ⟨rfl, f_⟩
              clear y
              have Fv6 := Lib.hid (Gr.trans Fv5.out f_)
              clear f_
              cases e6 : cIn c.every 1 1000
              case false =>
                rw [e6] at HGO
                simp only [Bool.false_and, Bool.and_false] at HGO
                clear e6
                go_wp2_with fail
                go_ret
                exact ⟨by rw [HGO.out]; rfl, Gr.trans F1.out Fv6.out⟩
              case true =>
                rw [e6] at HGO
                clear e6
                simp only [Bool.true_and] at HGO
                have y : v6.cell? ⟨W.heap.size, 7, none⟩ = some (.slice sa c.seeds.length sc) := HY.out v6 Fv6.out 7 _ rfl
                by_cases hl : (c.seeds.length : Int) ≤ 64
                · have d1 : decide ((c.seeds.length : Int) ≤ 64) = true := decide_eq_true hl
                  rw [d1, Bool.true_and] at HGO
                  go_wp2_with fail
                  refine (containsFuncP_any 81 _ sa sc c.seeds _ (HS.out.keep (Gr.trans F1.out Fv6.out) (fun _ _ h => h)) (HP.out _)).mono ?_
                  rintro e w9 ⟨rfl, f_⟩
                  have F9 := Lib.hid (Gr.trans (Gr.trans F1.out Fv6.out) f_)
                  clear f_ y
                  go_wp2_with fail
                  go_ret
                  exact ⟨by rw [HGO.out]; rfl, F9.out⟩
                · have d1 : decide ((c.seeds.length : Int) ≤ 64) = false := decide_eq_false hl
                  rw [d1, Bool.false_and] at HGO
                  go_wp2_with fail
                  go_ret
                  exact ⟨by rw [HGO.out]; rfl, Gr.trans F1.out Fv6.out⟩

theorem exec_bldOv (ρ : Operand → Value) (w : World) (dst : Option Tmp) (ty : TypeId) (pos : String) (after : Array Edge) {x0 x1 : Operand} {c0 c1 c2 c3 c4 c5 c6 c7 d0 d1 d2 d3 d4 d5 d6 : Value} (h0 : ρ x0 = .agg #[c0, c1, c2, c3, c4, c5, c6, c7]) (h1 : ρ x1 = .agg #[d0, d1, d2, d3, d4, d5, d6]) :
    (execOp ρ ⟨dst, .build 118 #[(0, x0), (1, x1)], ty, pos, after, none⟩).run Try.prog w = .ok (.value (.agg #[c0, c1, c2, c3, c4, c5, c6, c7, d0, d1, d2, d3, d4, d5, d6, .int .i64 0, .int .i64 0])) w := by simp [go_sem, h0, h1]
theorem wpList_bldOv {ops : Array Oper} {rest : List Oper} {dst : Option Tmp} {ty : TypeId} {pos : String} {after : Array Edge} {A : Act} {w : World} {Q : Exit → Act → World → Prop} {x0 x1 : Operand} {c0 c1 c2 c3 c4 c5 c6 c7 d0 d1 d2 d3 d4 d5 d6 : Value} (h0 : A.eval x0 = .agg #[c0, c1, c2, c3, c4, c5, c6, c7]) (h1 : A.eval x1 = .agg #[d0, d1, d2, d3, d4, d5, d6])
    (h : wpList Try.prog ops Q rest (A.put dst (.agg #[c0, c1, c2, c3, c4, c5, c6, c7, d0, d1, d2, d3, d4, d5, d6, .int .i64 0, .int .i64 0])) w) :
    wpList Try.prog ops Q (⟨dst, .build 118 #[(0, x0), (1, x1)], ty, pos, after, none⟩ :: rest) A w := by
  refine wpList_plain rfl fun K hK => ?_
  unfold Oper.wp
  rw [exec_bldOv A.eval w dst ty pos after h0 h1]
  exact hK _ _ h
def NewEnd (W : World) (O : Nat → Prop) (p : Value) (ds : List Int) (B : List Blk) (L : List Ow) (R : List Rw) (self : Int) (c : Cf) (e : Ending) (w' : World) : Prop :=
  if (cGood c && cIn self 1 65535) = true then ∃ bo x', e = .returned (.tuple #[.pointer (some ⟨bo, 0, none⟩), .int .i64 0]) ∧ Sta W O p ds (⟨bo, (oNew self c).arr x', 118⟩ :: B) L (orows (oNew self c) x' R) w'
  else e = .returned (.tuple #[.pointer none, .int .i64 1]) ∧ Sta W O p ds B L R w'
set_option maxHeartbeats 4000000 in
set_option maxRecDepth 100000 in
theorem ovNew_any (self : Int) (c : Cf) (sa : Option Addr) (sc : Nat) (p : Value) (ds : List Int) (Wb : World) (O : Nat → Prop) (B : List Blk) (L : List Ow) (R : List Rw) (w : World) (st : Sta Wb O p ds B L (⟨sa, c.seeds.length, sc, ints c.seeds⟩ :: R) w) :
    Calls Try.prog 19 #[.int .i64 self, .agg (c.arr sa sc)] w (NewEnd Wb O p ds B L R self c) := by
  obtain ⟨w1, hw1⟩ : ∃ w1, w1 = (w.alloc (.cells #[.int .i64 self] 3)).alloc (.cells (c.arr sa sc) 64) := ⟨_, rfl⟩
  obtain ⟨b0, hb0⟩ : ∃ b, b = w.heap.size := ⟨_, rfl⟩
  obtain ⟨b1, hb1⟩ : ∃ b, b = w.heap.size + 1 := ⟨_, rfl⟩
  have ST1 := Lib.hid (show Sta Wb O p ds (⟨b1, c.arr sa sc, 64⟩ :: ⟨b0, #[.int .i64 self], 3⟩ :: B) L (⟨sa, c.seeds.length, sc, ints c.seeds⟩ :: R) w1 by rw [hw1]; exact (st.box _ _ hb0).box _ _ (by rw [World.size_alloc]; exact hb1))
  have HW1 := Lib.hid hw1
  have HB0 := Lib.hid hb0
  have HB1 := Lib.hid hb1
  have CG := Lib.hid (fun w (h : SlA w sa c.seeds.length sc (ints c.seeds)) => ovGood_any c sa sc w h)
  have CI := Lib.hid (fun w => ovIn_any self 1 65535 w)
  clear hw1 hb0 hb1 st
  have l10 := (ST1.out.rowAt 0 rfl).le
  have l11 := (ST1.out.rowAt 0 rfl).max
  go_enter Try.func19, Try.ntmps19
  go_upto_region 1 with fail
  rw [← HW1.out, ← HB1.out, ← HB0.out]
  clear HW1 HB0 HB1
  refine wp_region_lit ?_
  refine wpList_load_mid (by rfl) 64 _ (by rfl) b1 0 (by rfl) (Array.toList (c.arr sa sc)) _ (blk_range (ST1.out.blkAt 0 rfl)) Try.underlying64 rfl Try.infoConfig ?_
  go_wp2_with fail
  refine (CG.out _ (ST1.out.rowAt 0 rfl)).mono ?_
  rintro e w2 ⟨rfl, f_⟩
  clear CG
  have ST2 := Lib.hid (show Sta Wb O p ds (⟨b1, c.arr sa sc, 64⟩ :: ⟨b0, #[.int .i64 self], 3⟩ :: B) L (⟨sa, c.seeds.length, sc, ints c.seeds⟩ :: R) w2 from ST1.out.gr f_)
  clear ST1 f_
  generalize hgd : cGood c = G
  have HGD := Lib.hid hgd
  clear hgd
  cases G
  case false =>
    go_wp2_with fail
    refine bodyPost_ret (v := .tuple #[.pointer none, .int .i64 1]) (by simp [results, Try.results19, go_sem]) rfl ?_
    unfold NewEnd
    rw [if_neg (by rw [HGD.out]; simp)]
    exact ⟨rfl, (ST2.out.lessB (List.Sublist.cons _ (List.Sublist.cons _ (List.Sublist.refl _)))).less (List.Sublist.refl _) (fun _ h => List.mem_cons_of_mem _ h)⟩
  case true =>
    have y0 : w2.cell? ⟨b0, 0, none⟩ = some (.int .i64 self) := ST2.out.cell 1 0 rfl rfl
    go_wp2_with fail
    refine (CI.out _).mono ?_
    rintro e w3 ⟨rfl, f_⟩
    clear CI y0
    have ST3 := Lib.hid (show Sta Wb O p ds (⟨b1, c.arr sa sc, 64⟩ :: ⟨b0, #[.int .i64 self], 3⟩ :: B) L (⟨sa, c.seeds.length, sc, ints c.seeds⟩ :: R) w3 from ST2.out.gr f_)
    clear ST2 f_
    generalize hin : cIn self 1 65535 = I
    have HIN := Lib.hid hin
    clear hin
    cases I
    case false =>
      go_wp2_with fail
      refine bodyPost_ret (v := .tuple #[.pointer none, .int .i64 1]) (by simp [results, Try.results19, go_sem]) rfl ?_
      unfold NewEnd
      rw [if_neg (by rw [HGD.out, HIN.out]; simp)]
      exact ⟨rfl, (ST3.out.lessB (List.Sublist.cons _ (List.Sublist.cons _ (List.Sublist.refl _)))).less (List.Sublist.refl _) (fun _ h => List.mem_cons_of_mem _ h)⟩
    case true =>
      have y7 : w3.cell? ⟨b1, 7, none⟩ = some (.slice sa c.seeds.length sc) := ST3.out.cell 0 7 rfl rfl
      have hl64 : c.seeds.length ≤ 64 := by
        have h := HGD.out
        unfold cGood at h
        simp only [Bool.and_eq_true, decide_eq_true_eq] at h
        omega
      go_upto_region 3 with fail
      go_wp2_with fail
      refine (cloneG sa sc c.seeds _ (ST3.out.rowAt 0 rfl) (by omega)).mono ?_
      rintro e w4 ⟨v, rfl, ho, f_⟩
      have ST4 := Lib.hid (show Sta Wb O p ds (⟨b1, c.arr sa sc, 64⟩ :: ⟨b0, #[.int .i64 self], 3⟩ :: B) (⟨3, 1, v, c.seeds.length, ints c.seeds⟩ :: L) (⟨sa, c.seeds.length, sc, ints c.seeds⟩ :: R) w4 from ST3.out.ownIn f_ ho)
      have HSZ := Lib.hid (show Wb.heap.size ≤ w3.heap.size from ST3.out.size)
      clear f_ ho y7 ST3
      have HP : Hid (PredI 55 #[.pointer (some ⟨b0, 0, none⟩)] (fun n => n == self) (fun k => v.ownBlock = some k) w4) := Lib.hid ⟨fun args w => by rfl, fun x w' f => ovNew1_any b0 self x w' (f.cell (ST4.out.cell 1 0 rfl rfl) (fun hk => ST4.out.nbl _ (at_ 1 rfl) _ (at_ 0 rfl) hk))⟩
      go_wp2_with fail
      refine (deleteFunc_any 55 _ _ _ v c.seeds _ (ST4.out.ownAt 0 rfl) HP.out (by omega)).mono ?_
      rintro e w5 ⟨a5, c5, rfl, hs5, f5, hb5⟩
      have ST5 := Lib.hid (show Sta Wb O p ds (⟨b1, c.arr sa sc, 64⟩ :: ⟨b0, #[.int .i64 self], 3⟩ :: B) L (⟨a5, (kept (fun n => n == self) c.seeds).length, c5, ints (kept (fun n => n == self) c.seeds)⟩ :: ⟨sa, c.seeds.length, sc, ints c.seeds⟩ :: R) w5 from ST4.out.spend f5 hs5 hb5)
      clear f5 hs5 hb5 HP ST4
      have zf : w5.frozen? ⟨b1, 7, none⟩ = false := ST5.out.froz 0 7 rfl
      have zc : w5.cell? ⟨b1, 7, none⟩ = some (.slice sa c.seeds.length sc) := ST5.out.cell 0 7 rfl rfl
      go_upto_region 4 with fail
      obtain ⟨w6, hw_⟩ : ∃ x, x = w5.setCell ⟨b1, 7, none⟩ (.slice a5 (kept (fun n => n == self) c.seeds).length c5) := ⟨_, rfl⟩
      rw [← hw_]
      have ST6 := Lib.hid (show Sta Wb O p ds (⟨b1, #[.int .i64 c.active, .int .i64 c.passive, .int .i64 c.far, .int .i64 c.near, .int .i64 c.mixA, .int .i64 c.mixP, .int .i64 c.every, .slice a5 (kept (fun n => n == self) c.seeds).length c5], 64⟩ :: ⟨b0, #[.int .i64 self], 3⟩ :: B) L (⟨a5, (kept (fun n => n == self) c.seeds).length, c5, ints (kept (fun n => n == self) c.seeds)⟩ :: ⟨sa, c.seeds.length, sc, ints c.seeds⟩ :: R) w6 from hw_ ▸ ST5.out.setC 0 rfl 7 (.slice a5 (kept (fun n => n == self) c.seeds).length c5) (Nat.le_of_ble_eq_true rfl))
      clear ST5 hw_
      clear zf zc
      have l20 := (ST6.out.rowAt 0 rfl).le
      have l21 := (ST6.out.rowAt 0 rfl).max
      have CN := Lib.hid (fun w => handNew_any self c.active c.passive w)
      obtain ⟨w7, hwd⟩ : ∃ x, x = w6.drew := ⟨_, rfl⟩
      have HWD := Lib.hid hwd
      have ST7 := Lib.hid (show Sta Wb O p ds (⟨b1, #[.int .i64 c.active, .int .i64 c.passive, .int .i64 c.far, .int .i64 c.near, .int .i64 c.mixA, .int .i64 c.mixP, .int .i64 c.every, .slice a5 (kept (fun n => n == self) c.seeds).length c5], 64⟩ :: ⟨b0, #[.int .i64 self], 3⟩ :: B) L (⟨a5, (kept (fun n => n == self) c.seeds).length, c5, ints (kept (fun n => n == self) c.seeds)⟩ :: ⟨sa, c.seeds.length, sc, ints c.seeds⟩ :: R) w7 from hwd ▸ ST6.out.gr ((Fr.refl _ _).drew))
      clear ST6 hwd
      haveI : Nonempty (WC (fun w => w.heap[b1]? = some (.cells (#[.int .i64 c.active, .int .i64 c.passive, .int .i64 c.far, .int .i64 c.near, .int .i64 c.mixA, .int .i64 c.mixP, .int .i64 c.every, .slice a5 (kept (fun n => n == self) c.seeds).length c5]) 64 (0, 0)) ∧ w.cell? ⟨b1, 0, none⟩ = some (.int .i64 c.active) ∧ w.cell? ⟨b1, 1, none⟩ = some (.int .i64 c.passive) ∧ w.cell? ⟨b0, 0, none⟩ = some (.int .i64 self))) := ⟨⟨w7, ⟨ST7.out.blkAt 0 rfl, ST7.out.cell 0 0 rfl rfl, ST7.out.cell 0 1 rfl rfl, ST7.out.cell 1 0 rfl rfl⟩⟩⟩
      have za : ∀ z : WC (fun w => w.heap[b1]? = some (.cells (#[.int .i64 c.active, .int .i64 c.passive, .int .i64 c.far, .int .i64 c.near, .int .i64 c.mixA, .int .i64 c.mixP, .int .i64 c.every, .slice a5 (kept (fun n => n == self) c.seeds).length c5]) 64 (0, 0)) ∧ w.cell? ⟨b1, 0, none⟩ = some (.int .i64 c.active) ∧ w.cell? ⟨b1, 1, none⟩ = some (.int .i64 c.passive) ∧ w.cell? ⟨b0, 0, none⟩ = some (.int .i64 self)), z.val.cell? ⟨b1, 0, none⟩ = some (.int .i64 c.active) := fun z => z.ok.2.1
      have zb : ∀ z : WC (fun w => w.heap[b1]? = some (.cells (#[.int .i64 c.active, .int .i64 c.passive, .int .i64 c.far, .int .i64 c.near, .int .i64 c.mixA, .int .i64 c.mixP, .int .i64 c.every, .slice a5 (kept (fun n => n == self) c.seeds).length c5]) 64 (0, 0)) ∧ w.cell? ⟨b1, 0, none⟩ = some (.int .i64 c.active) ∧ w.cell? ⟨b1, 1, none⟩ = some (.int .i64 c.passive) ∧ w.cell? ⟨b0, 0, none⟩ = some (.int .i64 self)), z.val.cell? ⟨b1, 1, none⟩ = some (.int .i64 c.passive) := fun z => z.ok.2.2.1
      have zs : ∀ z : WC (fun w => w.heap[b1]? = some (.cells (#[.int .i64 c.active, .int .i64 c.passive, .int .i64 c.far, .int .i64 c.near, .int .i64 c.mixA, .int .i64 c.mixP, .int .i64 c.every, .slice a5 (kept (fun n => n == self) c.seeds).length c5]) 64 (0, 0)) ∧ w.cell? ⟨b1, 0, none⟩ = some (.int .i64 c.active) ∧ w.cell? ⟨b1, 1, none⟩ = some (.int .i64 c.passive) ∧ w.cell? ⟨b0, 0, none⟩ = some (.int .i64 self)), z.val.cell? ⟨b0, 0, none⟩ = some (.int .i64 self) := fun z => z.ok.2.2.2
      refine wp_region_plan [6, 7, 8, 9, 10] (Plan.seq [0, 1, 2, 3, 4, 5, 6, 7, 8, 9, 10] .done) (fun w' => ∃ z : WC (fun w => w.heap[b1]? = some (.cells (#[.int .i64 c.active, .int .i64 c.passive, .int .i64 c.far, .int .i64 c.near, .int .i64 c.mixA, .int .i64 c.mixP, .int .i64 c.every, .slice a5 (kept (fun n => n == self) c.seeds).length c5]) 64 (0, 0)) ∧ w.cell? ⟨b1, 0, none⟩ = some (.int .i64 c.active) ∧ w.cell? ⟨b1, 1, none⟩ = some (.int .i64 c.passive) ∧ w.cell? ⟨b0, 0, none⟩ = some (.int .i64 self)), w' = z.val) (by kernel_rfl) (by kernel_rfl) (fun c a w d v h => by cases d <;> exact h) (fun c a w d v h => by cases d <;> exact h) (by rw [← HWD.out]; exact ⟨⟨w7, ⟨ST7.out.blkAt 0 rfl, ST7.out.cell 0 0 rfl rfl, ST7.out.cell 0 1 rfl rfl, ST7.out.cell 1 0 rfl rfl⟩⟩, rfl⟩) ?_
      rw [← HWD.out]
      clear HWD
      refine wpV_q (by simp only [List.getElem?_toArray, List.getElem?_cons_zero] <;> rfl) (by rfl) (by rfl) ?_
      refine wpQuiet_loadH (by rfl) 64 _ (by rfl) b1 0 (by rfl) (Array.toList (#[.int .i64 c.active, .int .i64 c.passive, .int .i64 c.far, .int .i64 c.near, .int .i64 c.mixA, .int .i64 c.mixP, .int .i64 c.every, .slice a5 (kept (fun n => n == self) c.seeds).length c5])) _ (fun w ⟨z, hz⟩ => hz ▸ blk_range z.ok.1) Try.underlying64 rfl Try.infoConfig ?_
      refine wpQuiet_nil ?_
      simp only [Act.put, List.setIfInBounds_toArray, List.set_cons_succ, List.set_cons_zero]
      refine wpV_q (by simp only [List.getElem?_toArray, List.getElem?_cons_succ, List.getElem?_cons_zero] <;> rfl) (by rfl) (by rfl) ?_
      go_big_quiet_step (fail)
      refine wpQuiet_nil ?_
      refine wpV_q (by simp only [List.getElem?_toArray, List.getElem?_cons_succ, List.getElem?_cons_zero] <;> rfl) (by rfl) (by rfl) ?_
      go_big_quiet_step (fail)
      refine wpQuiet_nil ?_
      refine wpV_q (by simp only [List.getElem?_toArray, List.getElem?_cons_succ, List.getElem?_cons_zero] <;> rfl) (by rfl) (by rfl) ?_
      go_big_quiet_step (fail)
      refine wpQuiet_nil ?_
      refine wpV_q (by simp only [List.getElem?_toArray, List.getElem?_cons_succ, List.getElem?_cons_zero] <;> rfl) (by rfl) (by rfl) ?_
      go_big_quiet_step (fail)
      refine wpQuiet_nil ?_
      refine wpV_q (by simp only [List.getElem?_toArray, List.getElem?_cons_succ, List.getElem?_cons_zero] <;> rfl) (by rfl) (by rfl) ?_
      go_big_quiet_step (fail)
      refine wpQuiet_nil ?_
      refine wpV_e (by simp only [List.getElem?_toArray, List.getElem?_cons_succ, List.getElem?_cons_zero] <;> rfl) (by rfl) ?_
      go_wp2_with fail
      refine (CN.out _).mono ?_
      rintro e w8 ⟨rfl, f_⟩
      have ST8 := Lib.hid (show Sta Wb O p ds (⟨b1, #[.int .i64 c.active, .int .i64 c.passive, .int .i64 c.far, .int .i64 c.near, .int .i64 c.mixA, .int .i64 c.mixP, .int .i64 c.every, .slice a5 (kept (fun n => n == self) c.seeds).length c5], 64⟩ :: ⟨b0, #[.int .i64 self], 3⟩ :: B) L (⟨a5, (kept (fun n => n == self) c.seeds).length, c5, ints (kept (fun n => n == self) c.seeds)⟩ :: ⟨sa, c.seeds.length, sc, ints c.seeds⟩ :: R) w8 from ST7.out.gr f_)
      clear ST7 f_
      go_wp2_with fail
      refine ⟨⟨⟨w8, ⟨ST8.out.blkAt 0 rfl, ST8.out.cell 0 0 rfl rfl, ST8.out.cell 0 1 rfl rfl, ST8.out.cell 1 0 rfl rfl⟩⟩, rfl⟩, ?_⟩
      refine wpV_e (by simp only [List.getElem?_toArray, List.getElem?_cons_succ, List.getElem?_cons_zero] <;> rfl) (by rfl) ?_
      refine wpList_bldOv (by rfl) (by rfl) ?_
      refine wpList_nil ?_
      refine ⟨⟨⟨w8, ⟨ST8.out.blkAt 0 rfl, ST8.out.cell 0 0 rfl rfl, ST8.out.cell 0 1 rfl rfl, ST8.out.cell 1 0 rfl rfl⟩⟩, rfl⟩, ?_⟩
      simp only [Act.put, List.setIfInBounds_toArray, List.set_cons_succ, List.set_cons_zero]
      refine wpV_e (by simp only [List.getElem?_toArray, List.getElem?_cons_succ, List.getElem?_cons_zero] <;> rfl) (by rfl) ?_
      go_wp2_with fail
      obtain ⟨w9, hw_⟩ : ∃ x, x = w8.alloc (.cells #[.int .i64 c.active, .int .i64 c.passive, .int .i64 c.far, .int .i64 c.near, .int .i64 c.mixA, .int .i64 c.mixP, .int .i64 c.every, .slice a5 (kept (fun n => n == self) c.seeds).length c5, .int .i64 (hNew self c.active c.passive).v.self, .slice hdNone.x.aa (hNew self c.active c.passive).v.act.length hdNone.x.ac, .int .i64 (hNew self c.active c.passive).v.am, .slice hdNone.x.pa (hNew self c.active c.passive).v.pas.length hdNone.x.pc, .int .i64 (hNew self c.active c.passive).v.pm, .slice hdNone.ka (hNew self c.active c.passive).asked.length hdNone.kc, .int .i64 64, .int .i64 0, .int .i64 0] 118) := ⟨_, rfl⟩
      obtain ⟨bo, hb_⟩ : ∃ b, b = w8.heap.size := ⟨_, rfl⟩
      rw [← hw_, ← hb_]
      have ST9 := Lib.hid (show Sta Wb O p ds (⟨bo, #[.int .i64 c.active, .int .i64 c.passive, .int .i64 c.far, .int .i64 c.near, .int .i64 c.mixA, .int .i64 c.mixP, .int .i64 c.every, .slice a5 (kept (fun n => n == self) c.seeds).length c5, .int .i64 (hNew self c.active c.passive).v.self, .slice hdNone.x.aa (hNew self c.active c.passive).v.act.length hdNone.x.ac, .int .i64 (hNew self c.active c.passive).v.am, .slice hdNone.x.pa (hNew self c.active c.passive).v.pas.length hdNone.x.pc, .int .i64 (hNew self c.active c.passive).v.pm, .slice hdNone.ka (hNew self c.active c.passive).asked.length hdNone.kc, .int .i64 64, .int .i64 0, .int .i64 0], 118⟩ :: ⟨b1, #[.int .i64 c.active, .int .i64 c.passive, .int .i64 c.far, .int .i64 c.near, .int .i64 c.mixA, .int .i64 c.mixP, .int .i64 c.every, .slice a5 (kept (fun n => n == self) c.seeds).length c5], 64⟩ :: ⟨b0, #[.int .i64 self], 3⟩ :: B) L (⟨a5, (kept (fun n => n == self) c.seeds).length, c5, ints (kept (fun n => n == self) c.seeds)⟩ :: ⟨sa, c.seeds.length, sc, ints c.seeds⟩ :: R) w9 from hw_ ▸ ST8.out.box _ _ hb_)
      clear ST8 hw_ hb_
      refine ⟨⟨⟨w9, ⟨ST9.out.blkAt 1 rfl, ST9.out.cell 1 0 rfl rfl, ST9.out.cell 1 1 rfl rfl, ST9.out.cell 2 0 rfl rfl⟩⟩, rfl⟩, ?_⟩
      refine wpV_e (by simp only [List.getElem?_toArray, List.getElem?_cons_succ, List.getElem?_cons_zero] <;> rfl) (by rfl) ?_
      go_wp2_with fail
      refine ⟨⟨⟨w9, ⟨ST9.out.blkAt 1 rfl, ST9.out.cell 1 0 rfl rfl, ST9.out.cell 1 1 rfl rfl, ST9.out.cell 2 0 rfl rfl⟩⟩, rfl⟩, ?_⟩
      refine wpV_e (by simp only [List.getElem?_toArray, List.getElem?_cons_succ, List.getElem?_cons_zero] <;> rfl) (by rfl) ?_
      go_wp2_with fail
      refine ⟨⟨⟨w9, ⟨ST9.out.blkAt 1 rfl, ST9.out.cell 1 0 rfl rfl, ST9.out.cell 1 1 rfl rfl, ST9.out.cell 2 0 rfl rfl⟩⟩, rfl⟩, ?_⟩
      refine wpV_done ?_
      clear za zb zs this CN
      go_wp2_with fail
      refine bodyPost_ret (v := .tuple #[.pointer (some ⟨bo, 0, none⟩), .int .i64 0]) (by simp [results, Try.results19, go_sem]) rfl ?_
      unfold NewEnd
      rw [if_pos (by rw [HGD.out, HIN.out]; rfl)]
      have hN := ((ST9.out.addNil (r := ⟨none, 0, 0, []⟩) rfl (Nat.le_refl _) (Nat.zero_le _)).addNil (r := ⟨none, 0, 0, []⟩) rfl (Nat.le_refl _) (Nat.zero_le _)).addNil (r := ⟨none, 0, 0, []⟩) rfl (Nat.le_refl _) (Nat.zero_le _)
      exact ⟨bo, ⟨a5, c5, hdNone⟩, rfl, (hN.lessB (List.Sublist.cons_cons _ (List.Sublist.cons _ (List.Sublist.cons _ (List.Sublist.refl _))))).less (List.Sublist.refl _) (inC (at_ 3 rfl) (inC (at_ 0 rfl) (inC (at_ 1 rfl) (inC (at_ 2 rfl) (fun _ h => List.mem_cons_of_mem _ (List.mem_cons_of_mem _ (List.mem_cons_of_mem _ (List.mem_cons_of_mem _ (List.mem_cons_of_mem _ h)))))))))⟩
end Go.Proofs.Ytelepohdfcjnfaa
