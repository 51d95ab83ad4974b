/-
  Layer 13: config, speaks (printed by gen_og.py).
-/
import Derived.Test.YtelepohdfcjnfaaZOverNew
import Derived.Deep.CutRange
namespace Go.Proofs.Ytelepohdfcjnfaa
open Go.RowKit Go.Proofs

def cfg13 (a p : Int) : Cf := ⟨a, p, 3, 1, 2, 2, 3, [1, 2]⟩
theorem Try.zeroConfig : (Try.prog.info? 64).map (fun i => (i.zero, i.size)) = some (some (.agg #[.int .i64 0, .int .i64 0, .int .i64 0, .int .i64 0, .int .i64 0, .int .i64 0, .int .i64 0, .slice none 0 0]), 8) := by kernel_rfl
theorem exec_bldCf (ρ : Operand → Value) (w : World) (dst : Option Tmp) (ty : TypeId) (pos : String) (after : Array Edge) {x0 x1 x2 x3 x4 x5 x6 x7 : Operand} {i0 i1 i2 i3 i4 i5 i6 : Int} {sa : Option Addr} {sn sc : Nat} (h0 : ρ x0 = .int .i64 i0) (h1 : ρ x1 = .int .i64 i1) (h2 : ρ x2 = .int .i64 i2) (h3 : ρ x3 = .int .i64 i3) (h4 : ρ x4 = .int .i64 i4) (h5 : ρ x5 = .int .i64 i5) (h6 : ρ x6 = .int .i64 i6) (h7 : ρ x7 = .slice sa sn sc) :
    (execOp ρ ⟨dst, .build 64 #[(0, x0), (1, x1), (2, x2), (3, x3), (4, x4), (5, x5), (6, x6), (7, x7)], ty, pos, after, none⟩).run Try.prog w = .ok (.value (.agg #[.int .i64 i0, .int .i64 i1, .int .i64 i2, .int .i64 i3, .int .i64 i4, .int .i64 i5, .int .i64 i6, .slice sa sn sc])) w := by simp [go_sem, h0, h1, h2, h3, h4, h5, h6, h7]
theorem wpList_bldCf {ops : Array Oper} {rest : List Oper} {dst : Option Tmp} {ty : TypeId} {pos : String} {after : Array Edge} {A : Act} {w : World} {Q : Exit → Act → World → Prop} {x0 x1 x2 x3 x4 x5 x6 x7 : Operand} {i0 i1 i2 i3 i4 i5 i6 : Int} {sa : Option Addr} {sn sc : Nat} (h0 : A.eval x0 = .int .i64 i0) (h1 : A.eval x1 = .int .i64 i1) (h2 : A.eval x2 = .int .i64 i2) (h3 : A.eval x3 = .int .i64 i3) (h4 : A.eval x4 = .int .i64 i4) (h5 : A.eval x5 = .int .i64 i5) (h6 : A.eval x6 = .int .i64 i6) (h7 : A.eval x7 = .slice sa sn sc)
    (h : wpList Try.prog ops Q rest (A.put dst (.agg #[.int .i64 i0, .int .i64 i1, .int .i64 i2, .int .i64 i3, .int .i64 i4, .int .i64 i5, .int .i64 i6, .slice sa sn sc])) w) :
    wpList Try.prog ops Q (⟨dst, .build 64 #[(0, x0), (1, x1), (2, x2), (3, x3), (4, x4), (5, x5), (6, x6), (7, x7)], ty, pos, after, none⟩ :: rest) A w := by
  refine wpList_plain rfl fun K hK => ?_
  unfold Oper.wp
  rw [exec_bldCf A.eval w dst ty pos after h0 h1 h2 h3 h4 h5 h6 h7]
  exact hK _ _ h
set_option maxHeartbeats 4000000 in
set_option maxRecDepth 100000 in
theorem config13_any (a pp : Int) (p : Value) (ds : List Int) (Wb : World) (O : Nat → Prop) (B : List Blk) (L : List Ow) (R : List Rw) (w : World) (st : Sta Wb O p ds B L R w) :
    Calls Try.prog 20 #[.int .i64 a, .int .i64 pp] w fun e w' => ∃ sa sc, e = .returned (.agg ((cfg13 a pp).arr sa sc)) ∧ Sta Wb O p ds B L (⟨sa, 2, sc, ints [1, 2]⟩ :: R) w' := by
  obtain ⟨w1, hw1⟩ : ∃ w1, w1 = w.alloc (.cells #[.int .i64 0, .int .i64 0, .int .i64 0, .int .i64 0, .int .i64 0, .int .i64 0, .int .i64 0, .slice none 0 0] 64) := ⟨_, rfl⟩
  obtain ⟨b1, hb1⟩ : ∃ b, b = w.heap.size := ⟨_, rfl⟩
  have ST1 := Lib.hid (show Sta Wb O p ds (⟨b1, #[.int .i64 0, .int .i64 0, .int .i64 0, .int .i64 0, .int .i64 0, .int .i64 0, .int .i64 0, .slice none 0 0], 64⟩ :: B) L (R) w1 by rw [hw1]; exact st.box _ _ hb1)
  have HW1 := Lib.hid hw1
  have HB1 := Lib.hid hb1
  clear hw1 hb1 st
  go_enter Try.func20, Try.ntmps20
  go_upto_region 1 with fail
  rw [← HW1.out, ← HB1.out]
  clear HW1 HB1
  go_wp2_with (obtain ⟨w2, hw_⟩ : ∃ x, x = w1.alloc (.cells #[.int .i64 1, .int .i64 2] 3) := ⟨_, rfl⟩; obtain ⟨ob, hob_⟩ : ∃ b, b = w1.heap.size := ⟨_, rfl⟩; rw [← hw_, ← hob_]; have ST2 := Lib.hid (show Sta Wb O p ds (⟨b1, #[.int .i64 0, .int .i64 0, .int .i64 0, .int .i64 0, .int .i64 0, .int .i64 0, .int .i64 0, .slice none 0 0], 64⟩ :: B) (⟨3, 1, .slice (some ⟨ob, 0, none⟩) 2 2, 2, ints [1, 2]⟩ :: L) (R) w2 from hw_ ▸ ST1.out.ownNew ((Fr.refl _ _).alloc _) (xs := ints [1, 2]) (n := 2) (by rw [heap_alloc_if, if_pos hob_]; rfl) (Nat.le_of_eq hob_.symm) rfl (by decide)); clear ST1 hw_ hob_; refine wpList_bldCf (by rfl) (by rfl) (by rfl) (by rfl) (by rfl) (by rfl) (by rfl) (by rfl) ?_; refine wpList_storeW (vs := Cf.arr (cfg13 a pp) (some ⟨ob, 0, none⟩) 2) (ST2.out.blkAt 0 rfl) (by rfl) 64 _ _ (by rfl) (by rfl) (by rfl) rfl Try.infoConfig (by rw [← Array.all_toList]; rfl) ?_)
  intro w3 f_ b_
  have ST3 := Lib.hid (show Sta Wb O p ds (⟨b1, Cf.arr (cfg13 a pp) (some ⟨ob, 0, none⟩) 2, 64⟩ :: B) (⟨3, 1, .slice (some ⟨ob, 0, none⟩) 2 2, 2, ints [1, 2]⟩ :: L) (R) w3 from ST2.out.store 0 rfl f_ b_)
  clear ST2 f_ b_
  obtain ⟨a4, c4, e4, hst⟩ := ST3.out.asRow 0 rfl
  injection e4 with e4 e5 e6
  subst e4 e6
  have ST4 := Lib.hid (show Sta Wb O p ds (⟨b1, Cf.arr (cfg13 a pp) (some ⟨ob, 0, none⟩) 2, 64⟩ :: B) L (⟨some ⟨ob, 0, none⟩, 2, 2, ints [1, 2]⟩ :: R) w3 from hst)
  clear hst ST3
  have LL : Hid ((loadVar 64 ⟨b1, 0, none⟩).run Try.prog w3 = .ok (.agg (Cf.arr (cfg13 a pp) (some ⟨ob, 0, none⟩) 2)) w3) := Lib.hid (run_loadVar_mid w3 b1 0 64 (Array.toList (Cf.arr (cfg13 a pp) (some ⟨ob, 0, none⟩) 2)) _ (blk_range (ST4.out.blkAt 0 rfl)) Try.underlying64 rfl Try.infoConfig)
  have LA : Hid ((asAddr (.pointer (some ⟨b1, 0, none⟩))).run Try.prog w3 = .ok ⟨b1, 0, none⟩ w3) := Lib.hid (by simp [go_sem])
  go_wp2_with fail
  refine bodyPost_ret (v := .agg (Cf.arr (cfg13 a pp) (some ⟨ob, 0, none⟩) 2)) (by simp [results, Try.results20, Sem.run_bind, Result.andThen_ok, LL.out, LA.out]) rfl ?_
  exact ⟨_, _, rfl, ST4.out.lessB (List.Sublist.cons _ (List.Sublist.refl _))⟩

theorem sp13_tick : ∃ o', oTick (oNew 1 (cfg13 2 2)) [] = (o', [⟨2, 1, 0, 0, false, []⟩], []) ∧ o'.h.v.self = 1 := ⟨_, rfl, rfl⟩
theorem sp13_good : (cGood (cfg13 2 2) && cIn 1 1 65535) = true := by decide
set_option maxHeartbeats 4000000 in
set_option maxRecDepth 100000 in
theorem oNew_ok (self : Int) (c : Cf) (hg : cGood c = true) : (oNew self c).Ok := by
  unfold cGood cIn at hg
  simp only [Bool.and_eq_true, decide_eq_true_eq] at hg
  refine ⟨hNew_good _ _ _, ?_, ?_, ?_, ?_, ?_, ?_, ?_, ?_⟩
  · simp only [oNew]; omega
  · simp only [oNew]; omega
  · simp only [oNew]; omega
  · simp only [oNew]; omega
  · simp only [oNew]; omega
  · simp only [oNew]
    have h1 : (kept (fun n => n == self) c.seeds).length ≤ c.seeds.length := List.length_filter_le _ _
    omega
  · simp only [oNew]; omega
  · simp only [oNew]; omega
set_option maxHeartbeats 4000000 in
set_option maxRecDepth 100000 in
theorem speaks13_any (W : World) : Calls Try.prog 18 #[] W fun e w' => e = .returned (.bool true) ∧ Gr W w' := by
  have ST0 := Lib.hid (show Sta W (fun _ => True) (.pointer none) [] [] [] [] W from Sta.initR (R := []) (fun _ h => nomatch h))
  have CC := Lib.hid (fun w h => config13_any 2 2 (.pointer none) [] W (fun _ => True) [] [] [] w h)
  have CN := Lib.hid (fun sa sc w h => ovNew_any 1 (cfg13 2 2) sa sc (.pointer none) [] W (fun _ => True) [] [] [] w h)
  unfold NewEnd at CN
  simp only [sp13_good, if_true] at CN
  obtain ⟨o', hT, hS⟩ := sp13_tick
  have CT := Lib.hid (fun bo x w h => ovTick_any (oNew 1 (cfg13 2 2)) x (.pointer none) [] W (fun _ => True) [] [] [] bo w h (oNew_ok 1 (cfg13 2 2) (by decide)))
  rw [hT] at CT
  simp only at CT
  unfold OEndM at CT
  have CV := Lib.hid (fun bo x L R w h => ovView_any o' x (.pointer none) [] W (fun _ => True) [] L R bo w h)
  have HS := Lib.hid hS
  clear hT hS
  go_enter Try.func18, Try.ntmps18
  go_upto_region 1 with fail
  go_wp2_with fail
  refine (CC.out _ ST0.out).mono ?_
  rintro e w1 ⟨sa, sc, rfl, hst⟩
  have ST1 := Lib.hid hst
  clear hst CC
  go_wp2_with fail
  refine (CN.out _ _ _ ST1.out).mono ?_
  rintro e w2 ⟨bo, x, rfl, hst⟩
  have ST2 := Lib.hid hst
  clear hst CN ST1
  go_wp2_with fail
  refine (CT.out _ _ _ ST2.out).mono ?_
  rintro e w3 ⟨x', ov, l, hl, rfl, hst⟩
  have hlen := congrArg List.length hl
  simp only [List.length_map, List.length_cons, List.length_nil] at hlen
  obtain ⟨a, rfl⟩ : ∃ a : Om, l = [a] := by
    match l, hlen with
    | [a], _ => exact ⟨a, rfl⟩
  have ham : a.m = ⟨2, 1, 0, 0, false, []⟩ := by simpa using hl
  obtain ⟨m, na, nc⟩ := a
  simp only at ham
  subst ham
  obtain ⟨g, c, rfl⟩ := hst.ownForm 0 rfl (by simp)
  have g0 := (hst.ownCell 0 rfl 0 rfl).1
  have g1 := (hst.ownCell 0 rfl 1 rfl).1
  have ST3 := Lib.hid hst
  have m1 : 1 ≤ c := by
    obtain ⟨a', c', e9, h9, -⟩ := SlA.of_own (hst.ownAt 0 rfl)
    injection e9 with _ _ e9
    have := h9.le
    rw [← e9] at this
    simpa using this
  clear hst hl CT ST2
  go_wp2_with fail
  refine (CV.out _ _ _ _ _ (ST3.out.less (List.Sublist.refl _) (fun r h => List.mem_append_right _ h))).mono ?_
  rintro e w4 ⟨rfl, f_⟩
  have F4 := Lib.hid (Gr.trans (ST3.out.fr.mono (fun k _ h => absurd h (pn_no k))) f_)
  unfold Vw.arr
  rw [HS.out]
  have HF : ∀ (a b c d : Value) (w : World), (Instr.field 29 (.agg #[.int .i64 1, a, b, c, d]) 0).run Try.prog w = .ok (.int .i64 1) w := fun _ _ _ _ _ => by kernel_rfl
  go_wp2_with fail
  go_ret
  exact ⟨rfl, F4.out⟩
end Go.Proofs.Ytelepohdfcjnfaa
