/-
  Package overlay: ask, View, join, fill, Tick (printed by gen_ov.py).
-/
import Derived.Test.YtelepohdfcjnfaaZStaB
import Derived.Test.YtelepohdfcjnfaaZHandFn
import Derived.Test.YtelepohdfcjnfaaZRegionW
import Derived.Deep.CutRange
namespace Go.Proofs.Ytelepohdfcjnfaa
open Go.RowKit Go.Proofs

structure OvP where
  sa : Option Addr
  sc : Nat
  x : HdP
abbrev Ov.arr (o : Ov) (x : OvP) : Array Value := #[.int .i64 o.c.active, .int .i64 o.c.passive, .int .i64 o.c.far, .int .i64 o.c.near, .int .i64 o.c.mixA, .int .i64 o.c.mixP, .int .i64 o.c.every, .slice x.sa o.c.seeds.length x.sc, .int .i64 o.h.v.self, .slice x.x.x.aa o.h.v.act.length x.x.x.ac, .int .i64 o.h.v.am, .slice x.x.x.pa o.h.v.pas.length x.x.x.pc, .int .i64 o.h.v.pm, .slice x.x.ka o.h.asked.length x.x.kc, .int .i64 64, .int .i64 o.ticks, .int .i64 o.seed]
abbrev orows (o : Ov) (x : OvP) (R : List Rw) : List Rw := ⟨x.sa, o.c.seeds.length, x.sc, ints o.c.seeds⟩ :: hrows o.h x.x R
theorem Try.infoOverlay : (Try.prog.info? 118).map (·.size) = some 17 := by kernel_rfl
theorem inT {α : Type} {l : List α} (m : List α) : ∀ x ∈ l, x ∈ m ++ l := fun _ h => List.mem_append_right _ h
theorem inCT {α : Type} {a : α} {m l : List α} (h : a ∈ l) (k : ∀ x ∈ m, x ∈ l) : ∀ x ∈ a :: m, x ∈ l := inC h k
/-- what a method of an overlay leaves: the overlay, and words -/
def OEnd (W : World) (O : Nat → Prop) (p : Value) (ds' : List Int) (B : List Blk) (L : List Ow) (R : List Rw) (bo : Nat) (o' : Ov) (out : List Ho) (e : Ending) (w' : World) : Prop :=
  ∃ x' ov, e = .returned ov ∧ Sta W O p ds' (⟨bo, o'.arr x', 118⟩ :: B) (⟨55, 8, ov, out.length, houts out⟩ :: L) (orows o' x' R) w'
/-- the overlay, and messages -/
def OEndM (W : World) (O : Nat → Prop) (p : Value) (ds' : List Int) (B : List Blk) (L : List Ow) (R : List Rw) (bo : Nat) (o' : Ov) (out : List Ms) (e : Ending) (w' : World) : Prop :=
  ∃ x' ov l, l.map Om.m = out ∧ e = .returned ov ∧ Sta W O p ds' (⟨bo, o'.arr x', 118⟩ :: B) (⟨55, 8, ov, l.length, oms l⟩ :: L) (l.map Om.row ++ orows o' x' R) w'
set_option maxHeartbeats 4000000 in
set_option maxRecDepth 100000 in
theorem ovAsk_any (o : Ov) (x : OvP) (n : Int) (high : Bool) (p : Value) (ds : List Int) (Wb : World) (O : Nat → Prop) (B : List Blk) (L : List Ow) (R : List Rw) (bo : Nat) (w : World) (st : Sta Wb O p ds (⟨bo, o.arr x, 118⟩ :: B) L (orows o x R) w) (g : o.h.Good) :
    Calls Try.prog 84 #[.pointer (some ⟨bo, 0, none⟩), .int .i64 n, .bool high] w (OEnd Wb O p ds B L R bo (oAsk o n high).1 (oAsk o n high).2) := by
  obtain ⟨ih, hh1, hh2, hh3⟩ := info_pair Try.zeroHand
  unfold oAsk
  simp only
  have CA := Lib.hid (fun O w (h1 : Sta w O p ds [] [] (hrows o.h x.x []) w) => handAsk_any o.h x.x n high p ds O w h1 g)
  obtain ⟨h', out, hh⟩ : ∃ a b, hAsk o.h n high = (a, b) := ⟨_, _, rfl⟩
  rw [hh] at CA ⊢
  simp only at CA ⊢
  clear hh
  have ST1 := Lib.hid st
  clear st
  go_enter Try.func84, Try.ntmps84
  go_upto_region 1 with fail
  go_wp2_with (refine wpList_load_mid (by rfl) 31 _ (by rfl) bo 8 (by rfl) (Array.toList (#[.int .i64 o.h.v.self, .slice x.x.x.aa o.h.v.act.length x.x.x.ac, .int .i64 o.h.v.am, .slice x.x.x.pa o.h.v.pas.length x.x.x.pc, .int .i64 o.h.v.pm, .slice x.x.ka o.h.asked.length x.x.kc, .int .i64 64])) _ (rangeIn (cs := o.arr x) (ST1.out.blkAt 0 rfl) 8 (by rfl)) Try.underlying31 rfl Try.infoHand ?_)
  refine (CA.out _ _ (ST1.out.enter (hrows o.h x.x []) (inC (at_ 1 rfl) (inC (at_ 2 rfl) (inC (at_ 3 rfl) inN))))).mono ?_
  intro e w2 hst
  obtain ⟨x', ov, rfl, hst2, -⟩ := hst
  have ST2 := Lib.hid (show Sta Wb O p ds (⟨bo, o.arr x, 118⟩ :: B) (⟨55, 8, ov, out.length, houts out⟩ :: L) (hrows h' x' (orows o x R)) w2 from ST1.out.leave (inC (at_ 1 rfl) (inC (at_ 2 rfl) (inC (at_ 3 rfl) inN))) hst2)
  clear hst2 ST1
  clear CA
  go_wp2_with (refine wpList_fresh (vs := h'.arr x') hh1 hh2 Try.infoHand (by rfl) (by rw [← Array.all_toList]; rfl) (by rfl) (by rfl) ?_)
  intro w3 f_ b_ l_
  obtain ⟨z, hb_⟩ : ∃ b, b = w2.heap.size := ⟨_, rfl⟩
  rw [← hb_] at b_ l_ ⊢
  have ST3 := Lib.hid (show Sta Wb O p ds (⟨z, h'.arr x', 31⟩ :: ⟨bo, o.arr x, 118⟩ :: B) (⟨55, 8, ov, out.length, houts out⟩ :: L) (hrows h' x' (orows o x R)) w3 from ST2.out.var f_ b_ (Nat.le_of_eq hb_.symm))
  clear ST2 f_ b_ l_ hb_
  go_upto_region 2 with fail
  go_wp2_with (first | refine wpList_load_mid (by rfl) 31 _ (by rfl) z 0 (by rfl) (Array.toList (h'.arr x')) _ (blk_range (ST3.out.blkAt 0 rfl)) Try.underlying31 rfl Try.infoHand ?_ | refine wpList_storeB (o := 8) (vs := h'.arr x') (ST3.out.blkAt 1 rfl) (by rfl) 31 _ _ (by rfl) (by rfl) (by rfl) (Nat.le_of_ble_eq_true rfl) Try.infoHand (by rw [← Array.all_toList]; rfl) ?_)
  intro w4 f_ b_
  have ST4 := Lib.hid (show Sta Wb O p ds (⟨z, h'.arr x', 31⟩ :: ⟨bo, #[.int .i64 o.c.active, .int .i64 o.c.passive, .int .i64 o.c.far, .int .i64 o.c.near, .int .i64 o.c.mixA, .int .i64 o.c.mixP, .int .i64 o.c.every, .slice x.sa o.c.seeds.length x.sc, .int .i64 h'.v.self, .slice x'.x.aa h'.v.act.length x'.x.ac, .int .i64 h'.v.am, .slice x'.x.pa h'.v.pas.length x'.x.pc, .int .i64 h'.v.pm, .slice x'.ka h'.asked.length x'.kc, .int .i64 64, .int .i64 o.ticks, .int .i64 o.seed], 118⟩ :: B) (⟨55, 8, ov, out.length, houts out⟩ :: L) (hrows h' x' (orows o x R)) w4 from ST3.out.store 1 rfl f_ b_)
  clear ST3 f_ b_
  go_wp2_with fail
  go_ret
  exact ⟨⟨x.sa, x.sc, x'⟩, ov, rfl, (ST4.out.lessB (List.Sublist.cons _ (List.Sublist.refl _))).less (List.Sublist.refl _) (inC (at_ 3 rfl) (inC (at_ 0 rfl) (inC (at_ 1 rfl) (inC (at_ 2 rfl) (fun _ h => List.mem_cons_of_mem _ (List.mem_cons_of_mem _ (List.mem_cons_of_mem _ (List.mem_cons_of_mem _ (List.mem_cons_of_mem _ (List.mem_cons_of_mem _ (List.mem_cons_of_mem _ (h))))))))))))⟩

set_option maxHeartbeats 4000000 in
set_option maxRecDepth 100000 in
theorem ovView_any (o : Ov) (x : OvP) (p : Value) (ds : List Int) (Wb : World) (O : Nat → Prop) (B : List Blk) (L : List Ow) (R : List Rw) (bo : Nat) (w : World) (st : Sta Wb O p ds (⟨bo, o.arr x, 118⟩ :: B) L (orows o x R) w) :
    Calls Try.prog 21 #[.pointer (some ⟨bo, 0, none⟩)] w fun e w' => e = .returned (.agg (o.h.v.arr x.x.x)) ∧ Gr w w' := by
  obtain ⟨w1, hw1⟩ : ∃ w1, w1 = w.alloc (.cells viewZ 29) := ⟨_, rfl⟩
  obtain ⟨b1, hb1⟩ : ∃ b, b = w.heap.size := ⟨_, rfl⟩
  have ST1 := Lib.hid (show Sta Wb O p ds (⟨b1, viewZ, 29⟩ :: ⟨bo, o.arr x, 118⟩ :: B) L (orows o x R) w1 by rw [hw1]; exact st.box _ _ hb1)
  have F1 := Lib.hid (show Gr w w1 by rw [hw1]; exact (Fr.refl _ _).alloc _)
  have HS := Lib.hid (show w.heap.size ≤ b1 by rw [hb1]; exact Nat.le_refl _)
  have HW1 := Lib.hid hw1
  have HB1 := Lib.hid hb1
  clear hw1 hb1 st
  go_enter Try.func21, Try.ntmps21
  go_upto_region 1 with fail
  rw [← HW1.out, ← HB1.out]
  clear HW1 HB1
  go_upto_region 3 with fail
  go_wp2_with (first | refine wpList_load_mid (by rfl) 29 _ (by rfl) bo 8 (by rfl) (Array.toList (o.h.v.arr x.x.x)) _ (rangeIn (cs := o.arr x) (ST1.out.blkAt 1 rfl) 8 (by rfl)) Try.underlying29 rfl Try.infoView ?_ | refine wpList_storeW (vs := o.h.v.arr x.x.x) (ST1.out.blkAt 0 rfl) (by rfl) 29 _ _ (by rfl) (by rfl) (by rfl) rfl Try.infoView (by rw [← Array.all_toList]; rfl) ?_)
  intro w2 f_ b_
  have F2 := Lib.hid (fr_new F1.out f_ HS.out)
  have ST2 := Lib.hid (show Sta Wb O p ds (⟨b1, o.h.v.arr x.x.x, 29⟩ :: ⟨bo, o.arr x, 118⟩ :: B) L (orows o x R) w2 from ST1.out.store 0 rfl f_ b_)
  clear f_ b_ ST1 F1
  have LL : Hid ((loadVar 29 ⟨b1, 0, none⟩).run Try.prog w2 = .ok (.agg (o.h.v.arr x.x.x)) w2) := Lib.hid (run_loadVar_mid w2 b1 0 29 (Array.toList (o.h.v.arr x.x.x)) _ (blk_range (ST2.out.blkAt 0 rfl)) Try.underlying29 rfl Try.infoView)
  have LA : Hid ((asAddr (.pointer (some ⟨b1, 0, none⟩))).run Try.prog w2 = .ok ⟨b1, 0, none⟩ w2) := Lib.hid (by simp [go_sem])
  go_wp2_with fail
  refine bodyPost_ret (v := .agg (o.h.v.arr x.x.x)) (by simp [results, Try.results21, Sem.run_bind, Result.andThen_ok, LL.out, LA.out]) rfl ?_
  exact ⟨rfl, F2.out⟩

set_option maxHeartbeats 4000000 in
set_option maxRecDepth 100000 in
theorem ovJoin_any (o : Ov) (x : OvP) (p : Value) (ds : List Int) (Wb : World) (O : Nat → Prop) (B : List Blk) (L : List Ow) (R : List Rw) (bo : Nat) (w : World) (st : Sta Wb O p ds (⟨bo, o.arr x, 118⟩ :: B) L (orows o x R) w) (g : o.Ok) :
    Calls Try.prog 85 #[.pointer (some ⟨bo, 0, none⟩)] w (OEnd Wb O p ds B L R bo (oJoin o).1 (oJoin o).2) := by
  obtain ⟨o', out, hh⟩ : ∃ a b, oJoin o = (a, b) := ⟨_, _, rfl⟩
  rw [hh]
  have HH := Lib.hid hh
  have HG := Lib.hid g
  clear hh g
  have ST1 := Lib.hid st
  clear st
  go_enter Try.func85, Try.ntmps85
  have l10 := (ST1.out.rowAt 0 rfl).le
  have l11 := (ST1.out.rowAt 0 rfl).max
  have y7 : w.cell? ⟨bo, 7, none⟩ = some (.slice x.sa o.c.seeds.length x.sc) := ST1.out.cell 0 7 rfl rfl
  by_cases hz : o.c.seeds = []
  · obtain ⟨rfl, rfl⟩ : o = o' ∧ [] = out := by
      have hh := HH.out
      unfold oJoin at hh
      rw [if_pos hz] at hh
      injection hh with a b
      exact ⟨a, b⟩
    have hz0 : o.c.seeds.length = 0 := by rw [hz]; rfl
    have hz2 : ((o.c.seeds.length : Int) == 0) = true := by rw [hz0]; rfl
    clear hz
    go_wp2_with fail
    go_ret
    exact ⟨x, _, rfl, ST1.out.ownNil _ _⟩
  · have hlp : 0 < o.c.seeds.length := List.length_pos_iff.2 hz
    have hz2 : ((o.c.seeds.length : Int) == 0) = false := by simp; omega
    obtain ⟨hs0, hs1⟩ := HG.out.seed
    obtain ⟨bs, os_, e9, hcl⟩ := (ST1.out.rowAt 0 rfl).int ((o.seed.tmod o.c.seeds.length).toNat) (by have := tmod_pos hs0 (show (0 : Int) < o.c.seeds.length by omega); omega)
    obtain ⟨hi0, hi1⟩ := tmod_pos (x := o.seed) hs0 (show (0 : Int) < o.c.seeds.length by omega)
    obtain ⟨j, hj⟩ : ∃ j : Int, j = o.seed.tmod o.c.seeds.length := ⟨_, rfl⟩
    obtain ⟨jn, hjn⟩ : ∃ jn : Nat, jn = j.toNat := ⟨_, rfl⟩
    rw [← hj] at hi0 hi1
    simp only [← hj] at hcl
    have hjj : o.seed.tmod (o.c.seeds.length : Int) = (jn : Int) := by rw [← hj]; omega
    have hjl : jn < o.c.seeds.length := by omega
    obtain ⟨n0, hn0⟩ : ∃ n, n = o.c.seeds[j.toNat]'(by omega) := ⟨_, rfl⟩
    rw [← hn0, ← hjn] at hcl
    obtain ⟨m, hm⟩ : ∃ m, (o.seed + 1).tmod (o.c.seeds.length : Int) = m := ⟨_, rfl⟩
    have HJ := Lib.hid (show oJoin o = ((oAsk { o with seed := m } n0 false).1, (oAsk { o with seed := m } n0 false).2.map Ho.joins) by
      unfold oJoin oSeed
      rw [if_neg hz, hm, ← hj, hn0, List.getD_eq_getElem?_getD, List.getElem?_eq_getElem (by omega)]
      rfl)
    have HM := Lib.hid (hm ▸ HG.out.next hz : Ov.Ok { o with seed := m })
    have HE := Lib.hid e9
    clear hj hjn hi0 hi1 hn0
    have hlz : ¬ (o.c.seeds.length : Int) = 0 := by omega
    have HCL0 := Lib.hid hcl
    go_upto_region 3 with fail
    have HCL := Lib.hid (show w.drew.cell? ⟨bs, os_ + jn, none⟩ = some (.int .i64 n0) from HCL0.out)
    clear hcl HCL0 y7 e9
    obtain ⟨w2, hwd⟩ : ∃ x, x = w.drew := ⟨_, rfl⟩
    have HWD := Lib.hid hwd
    rw [← hwd] at HCL
    have ST2 := Lib.hid (show Sta Wb O p ds (⟨bo, o.arr x, 118⟩ :: B) L (orows o x R) w2 from hwd ▸ ST1.out.gr ((Fr.refl _ _).drew))
    clear ST1 hwd
    haveI : Nonempty (WC (fun w => w.cell? ⟨bo, 7, none⟩ = some (.slice (some ⟨bs, os_, none⟩) o.c.seeds.length x.sc) ∧ w.cell? ⟨bo, 16, none⟩ = some (.int .i64 o.seed) ∧ w.cell? ⟨bs, os_ + jn, none⟩ = some (.int .i64 n0))) := ⟨⟨w2, ⟨(by have h := ST2.out.cell 0 7 rfl rfl; rw [← HE.out]; exact h), ST2.out.cell 0 16 rfl rfl, HCL.out⟩⟩⟩
    have z7 : ∀ z : WC (fun w => w.cell? ⟨bo, 7, none⟩ = some (.slice (some ⟨bs, os_, none⟩) o.c.seeds.length x.sc) ∧ w.cell? ⟨bo, 16, none⟩ = some (.int .i64 o.seed) ∧ w.cell? ⟨bs, os_ + jn, none⟩ = some (.int .i64 n0)), z.val.cell? ⟨bo, 7, none⟩ = some (.slice (some ⟨bs, os_, none⟩) o.c.seeds.length x.sc) := fun z => z.ok.1
    have z16 : ∀ z : WC (fun w => w.cell? ⟨bo, 7, none⟩ = some (.slice (some ⟨bs, os_, none⟩) o.c.seeds.length x.sc) ∧ w.cell? ⟨bo, 16, none⟩ = some (.int .i64 o.seed) ∧ w.cell? ⟨bs, os_ + jn, none⟩ = some (.int .i64 n0)), z.val.cell? ⟨bo, 16, none⟩ = some (.int .i64 o.seed) := fun z => z.ok.2.1
    have ze : ∀ z : WC (fun w => w.cell? ⟨bo, 7, none⟩ = some (.slice (some ⟨bs, os_, none⟩) o.c.seeds.length x.sc) ∧ w.cell? ⟨bo, 16, none⟩ = some (.int .i64 o.seed) ∧ w.cell? ⟨bs, os_ + jn, none⟩ = some (.int .i64 n0)), z.val.cell? ⟨bs, os_ + jn, none⟩ = some (.int .i64 n0) := fun z => z.ok.2.2
    refine wp_region_plan [18] (Plan.seq [0, 1, 2, 3, 4, 5, 6, 7, 8, 9, 10, 11, 12, 13, 14, 15, 16, 17, 18] .done) (fun w' => ∃ z : WC (fun w => w.cell? ⟨bo, 7, none⟩ = some (.slice (some ⟨bs, os_, none⟩) o.c.seeds.length x.sc) ∧ w.cell? ⟨bo, 16, none⟩ = some (.int .i64 o.seed) ∧ w.cell? ⟨bs, os_ + jn, none⟩ = some (.int .i64 n0)), w' = z.val) (by kernel_rfl) (by kernel_rfl) (fun c a w d v h => by cases d <;> exact h) (fun c a w d v h => by cases d <;> exact h) (by rw [← HWD.out]; exact ⟨⟨w2, ⟨(by have h := ST2.out.cell 0 7 rfl rfl; rw [← HE.out]; exact h), ST2.out.cell 0 16 rfl rfl, HCL.out⟩⟩, rfl⟩) ?_
    rw [← HWD.out]
    clear HWD
    refine wpV_q (by simp only [List.getElem?_toArray, List.getElem?_cons_zero] <;> rfl) (by rfl) (by rfl) ?_
    go_big_quiet_step (fail)
    refine wpQuiet_nil ?_
    refine wpV_q (by simp only [List.getElem?_toArray, List.getElem?_cons_succ, List.getElem?_cons_zero] <;> rfl) (by rfl) (by rfl) ?_
    go_big_quiet_step (fail)
    refine wpQuiet_nil ?_
    refine wpV_q (by simp only [List.getElem?_toArray, List.getElem?_cons_succ, List.getElem?_cons_zero] <;> rfl) (by rfl) (by rfl) ?_
    go_big_quiet_step (fail)
    refine wpQuiet_nil ?_
    refine wpV_q (by simp only [List.getElem?_toArray, List.getElem?_cons_succ, List.getElem?_cons_zero] <;> rfl) (by rfl) (by rfl) ?_
    go_big_quiet_step (fail)
    refine wpQuiet_nil ?_
    refine wpV_q (by simp only [List.getElem?_toArray, List.getElem?_cons_succ, List.getElem?_cons_zero] <;> rfl) (by rfl) (by rfl) ?_
    go_big_quiet_step (fail)
    refine wpQuiet_nil ?_
    refine wpV_q (by simp only [List.getElem?_toArray, List.getElem?_cons_succ, List.getElem?_cons_zero] <;> rfl) (by rfl) (by rfl) ?_
    go_big_quiet_step (fail)
    refine wpQuiet_nil ?_
    refine wpV_q (by simp only [List.getElem?_toArray, List.getElem?_cons_succ, List.getElem?_cons_zero] <;> rfl) (by rfl) (by rfl) ?_
    go_big_quiet_step (fail)
    refine wpQuiet_nil ?_
    refine wpV_q (by simp only [List.getElem?_toArray, List.getElem?_cons_succ, List.getElem?_cons_zero] <;> rfl) (by rfl) (by rfl) ?_
    go_big_quiet_step (fail)
    refine wpQuiet_nil ?_
    refine wpV_q (by simp only [List.getElem?_toArray, List.getElem?_cons_succ, List.getElem?_cons_zero] <;> rfl) (by rfl) (by rfl) ?_
    go_big_quiet_step (fail)
    refine wpQuiet_nil ?_
    refine wpV_q (by simp only [List.getElem?_toArray, List.getElem?_cons_succ, List.getElem?_cons_zero] <;> rfl) (by rfl) (by rfl) ?_
    go_big_quiet_step (fail)
    refine wpQuiet_nil ?_
    refine wpV_q (by simp only [List.getElem?_toArray, List.getElem?_cons_succ, List.getElem?_cons_zero] <;> rfl) (by rfl) (by rfl) ?_
    go_big_quiet_step (fail)
    refine wpQuiet_nil ?_
    refine wpV_q (by simp only [List.getElem?_toArray, List.getElem?_cons_succ, List.getElem?_cons_zero] <;> rfl) (by rfl) (by rfl) ?_
    go_big_quiet_step (fail)
    refine wpQuiet_nil ?_
    refine wpV_q (by simp only [List.getElem?_toArray, List.getElem?_cons_succ, List.getElem?_cons_zero] <;> rfl) (by rfl) (by rfl) ?_
    go_big_quiet_step (fail)
    refine wpQuiet_nil ?_
    refine wpV_q (by simp only [List.getElem?_toArray, List.getElem?_cons_succ, List.getElem?_cons_zero] <;> rfl) (by rfl) (by rfl) ?_
    go_big_quiet_step (fail)
    refine wpQuiet_nil ?_
    refine wpV_q (by simp only [List.getElem?_toArray, List.getElem?_cons_succ, List.getElem?_cons_zero] <;> rfl) (by rfl) (by rfl) ?_
    go_big_quiet_step (fail)
    refine wpQuiet_nil ?_
    refine wpV_q (by simp only [List.getElem?_toArray, List.getElem?_cons_succ, List.getElem?_cons_zero] <;> rfl) (by rfl) (by rfl) ?_
    go_big_quiet_step (fail)
    refine wpQuiet_nil ?_
    refine wpV_q (by simp only [List.getElem?_toArray, List.getElem?_cons_succ, List.getElem?_cons_zero] <;> rfl) (by rfl) (by rfl) ?_
    go_big_quiet_step (fail)
    refine wpQuiet_nil ?_
    refine wpV_q (by simp only [List.getElem?_toArray, List.getElem?_cons_succ, List.getElem?_cons_zero] <;> rfl) (by rfl) (by rfl) ?_
    go_big_quiet_step (fail)
    refine wpQuiet_nil ?_
    refine wpV_e (by simp only [List.getElem?_toArray, List.getElem?_cons_succ, List.getElem?_cons_zero] <;> rfl) (by rfl) ?_
    go_wp2_with fail
    refine ⟨⟨⟨w2, ⟨(by have h := ST2.out.cell 0 7 rfl rfl; rw [← HE.out]; exact h), ST2.out.cell 0 16 rfl rfl, HCL.out⟩⟩, rfl⟩, ?_⟩
    refine wpV_done ?_
    clear z7 z16 ze this HCL
    go_upto_region 4 with fail
    obtain ⟨w3, hwd⟩ : ∃ x, x = w2.drew := ⟨_, rfl⟩
    have HWD := Lib.hid hwd
    have ST3 := Lib.hid (show Sta Wb O p ds (⟨bo, o.arr x, 118⟩ :: B) L (orows o x R) w3 from hwd ▸ ST2.out.gr ((Fr.refl _ _).drew))
    clear ST2 hwd
    haveI : Nonempty (WC (fun w => w.heap[bo]? = some (.cells (o.arr x) 118 (0, 0)))) := ⟨⟨w3, ST3.out.blkAt 0 rfl⟩⟩
    have z7 : ∀ z : WC (fun w => w.heap[bo]? = some (.cells (o.arr x) 118 (0, 0))), z.val.cell? ⟨bo, 7, none⟩ = some (.slice x.sa o.c.seeds.length x.sc) := fun z => by rw [Lib.cell_of_heap z.ok]; rfl
    have z16 : ∀ z : WC (fun w => w.heap[bo]? = some (.cells (o.arr x) 118 (0, 0))), z.val.cell? ⟨bo, 16, none⟩ = some (.int .i64 o.seed) := fun z => by rw [Lib.cell_of_heap z.ok]; rfl
    refine wp_region_lastO 15 [] [] [0, 1, 2, 3, 4, 5, 6, 7, 8, 9, 10, 11, 12, 13, 14] (fun w' => ∃ z : WC (fun w => w.heap[bo]? = some (.cells (o.arr x) 118 (0, 0))), w' = z.val) (by kernel_rfl) (by kernel_rfl) (fun c a w d v h => by cases d <;> exact h) (fun c a w d v h => by cases d <;> exact h) (by rw [← HWD.out]; exact ⟨⟨w3, ST3.out.blkAt 0 rfl⟩, rfl⟩) ?_
    rw [← HWD.out]
    clear HWD
    simp only [List.take]
    refine wpT_q (by simp only [List.getElem?_toArray, List.getElem?_cons_zero] <;> rfl) (by rfl) (by rfl) ?_
    go_big_quiet_step (fail)
    refine wpQuiet_nil ?_
    refine wpT_q (by simp only [List.getElem?_toArray, List.getElem?_cons_succ, List.getElem?_cons_zero] <;> rfl) (by rfl) (by rfl) ?_
    go_big_quiet_step (fail)
    refine wpQuiet_nil ?_
    refine wpT_q (by simp only [List.getElem?_toArray, List.getElem?_cons_succ, List.getElem?_cons_zero] <;> rfl) (by rfl) (by rfl) ?_
    go_big_quiet_step (fail)
    refine wpQuiet_nil ?_
    refine wpT_q (by simp only [List.getElem?_toArray, List.getElem?_cons_succ, List.getElem?_cons_zero] <;> rfl) (by rfl) (by rfl) ?_
    go_big_quiet_step (fail)
    refine wpQuiet_nil ?_
    refine wpT_q (by simp only [List.getElem?_toArray, List.getElem?_cons_succ, List.getElem?_cons_zero] <;> rfl) (by rfl) (by rfl) ?_
    go_big_quiet_step (fail)
    refine wpQuiet_nil ?_
    refine wpT_q (by simp only [List.getElem?_toArray, List.getElem?_cons_succ, List.getElem?_cons_zero] <;> rfl) (by rfl) (by rfl) ?_
    go_big_quiet_step (fail)
    refine wpQuiet_nil ?_
    refine wpT_q (by simp only [List.getElem?_toArray, List.getElem?_cons_succ, List.getElem?_cons_zero] <;> rfl) (by rfl) (by rfl) ?_
    go_big_quiet_step (fail)
    refine wpQuiet_nil ?_
    refine wpT_q (by simp only [List.getElem?_toArray, List.getElem?_cons_succ, List.getElem?_cons_zero] <;> rfl) (by rfl) (by rfl) ?_
    go_big_quiet_step (fail)
    refine wpQuiet_nil ?_
    refine wpT_q (by simp only [List.getElem?_toArray, List.getElem?_cons_succ, List.getElem?_cons_zero] <;> rfl) (by rfl) (by rfl) ?_
    go_big_quiet_step (fail)
    refine wpQuiet_nil ?_
    refine wpT_q (by simp only [List.getElem?_toArray, List.getElem?_cons_succ, List.getElem?_cons_zero] <;> rfl) (by rfl) (by rfl) ?_
    go_big_quiet_step (fail)
    refine wpQuiet_nil ?_
    refine wpT_q (by simp only [List.getElem?_toArray, List.getElem?_cons_succ, List.getElem?_cons_zero] <;> rfl) (by rfl) (by rfl) ?_
    go_big_quiet_step (fail)
    refine wpQuiet_nil ?_
    refine wpT_q (by simp only [List.getElem?_toArray, List.getElem?_cons_succ, List.getElem?_cons_zero] <;> rfl) (by rfl) (by rfl) ?_
    go_big_quiet_step (fail)
    refine wpQuiet_nil ?_
    refine wpT_q (by simp only [List.getElem?_toArray, List.getElem?_cons_succ, List.getElem?_cons_zero] <;> rfl) (by rfl) (by rfl) ?_
    go_big_quiet_step (fail)
    refine wpQuiet_nil ?_
    refine wpT_q (by simp only [List.getElem?_toArray, List.getElem?_cons_succ, List.getElem?_cons_zero] <;> rfl) (by rfl) (by rfl) ?_
    go_big_quiet_step (fail)
    refine wpQuiet_nil ?_
    refine wpT_q (by simp only [List.getElem?_toArray, List.getElem?_cons_succ, List.getElem?_cons_zero] <;> rfl) (by rfl) (by rfl) ?_
    go_big_quiet_step (fail)
    refine wpQuiet_nil ?_
    clear this z7 z16
    refine wpT_nil ?_
    simp only [lastQ, List.drop]
    have zf : w3.frozen? ⟨bo, 16, none⟩ = false := ST3.out.froz 0 16 rfl
    have zc : w3.cell? ⟨bo, 16, none⟩ = some (.int .i64 o.seed) := ST3.out.cell 0 16 rfl rfl
    go_upto_region 5 with fail
    obtain ⟨w4, hw_⟩ : ∃ x, x = w3.setCell ⟨bo, 16, none⟩ (.int .i64 m) := ⟨_, rfl⟩
    rw [← hw_]
    have ST4 := Lib.hid (show Sta Wb O p ds (⟨bo, #[.int .i64 o.c.active, .int .i64 o.c.passive, .int .i64 o.c.far, .int .i64 o.c.near, .int .i64 o.c.mixA, .int .i64 o.c.mixP, .int .i64 o.c.every, .slice x.sa o.c.seeds.length x.sc, .int .i64 o.h.v.self, .slice x.x.x.aa o.h.v.act.length x.x.x.ac, .int .i64 o.h.v.am, .slice x.x.x.pa o.h.v.pas.length x.x.x.pc, .int .i64 o.h.v.pm, .slice x.x.ka o.h.asked.length x.x.kc, .int .i64 64, .int .i64 o.ticks, .int .i64 m], 118⟩ :: B) L (orows o x R) w4 from hw_ ▸ ST3.out.setC 0 rfl 16 (.int .i64 m) (Nat.le_of_ble_eq_true rfl))
    clear ST3 hw_
    clear zf zc hjj hm hlz
    have CA := Lib.hid (fun w (h1 : Sta Wb O p ds (⟨bo, Ov.arr { o with seed := m } x, 118⟩ :: B) L (orows { o with seed := m } x R) w) => ovAsk_any { o with seed := m } x n0 false p ds Wb O B L R bo w h1 HM.out.h)
    obtain ⟨o2, out2, h2⟩ : ∃ a b, oAsk { o with seed := m } n0 false = (a, b) := ⟨_, _, rfl⟩
    have hone := hAsk_one o.h n0 false
    have ho2 : (oAsk { o with seed := m } n0 false).2.length ≤ 1 := hone
    rw [h2] at CA ho2
    simp only at CA ho2
    obtain ⟨rfl, rfl⟩ : o2 = o' ∧ out2.map Ho.joins = out := by
      have hh := HH.out
      rw [HJ.out, h2] at hh
      injection hh with a b
      exact ⟨a, b⟩
    have HO2 := Lib.hid ho2
    clear HH HJ h2 hone ho2 HM hz hlp hz2
    go_wp2_with fail
    refine (CA.out _ ST4.out).mono ?_
    rintro e w5 ⟨x', ov, rfl, hst⟩
    have ST20 := Lib.hid hst
    clear hst CA ST4
    obtain ⟨a5, c5, e5, -⟩ := SlA.of_own (ST20.out.ownAt 0 rfl)
    subst e5
    have m5 := ST20.out.ownAt 0 rfl
    obtain ⟨a6, c6, e6, h6, -⟩ := SlA.of_own m5
    injection e6 with e6 e7 e8
    subst e6 e8
    have m6 := h6.le
    have m7 := h6.max
    clear m5 h6
    go_upto_region 6 with fail
    go_wp2_with fail
    go_loopw [51] (fun kv wr => ∃ k : Nat, kv = .int .i64 k ∧ k ≤ out2.length ∧ Sta Wb O p ds (⟨bo, o2.arr x', 118⟩ :: B) (⟨55, 8, .slice a5 out2.length c5, out2.length, houts (if k = 0 then out2 else out2.map Ho.joins)⟩ :: L) (orows o2 x' R) wr) (fun kv _ => out2.length - (intOf kv).toNat)
    case atStart => exact ⟨0, rfl, Nat.zero_le _, ST20.out⟩
    case round =>
      clear ST20
      obtain ⟨k, rfl, hk, hst⟩ := hrel
      have ST21 := Lib.hid hst
      clear hst
      by_cases hkl : k < out2.length
      · obtain rfl : k = 0 := by have := HO2.out; omega
        obtain ⟨a, rfl⟩ : ∃ a, out2 = [a] := by
          have := HO2.out
          match out2, hkl, this with
          | [a], _, _ => exact ⟨a, rfl⟩
        obtain ⟨g, c, eg⟩ := ST21.out.ownForm 0 rfl (by simp)
        injection eg with eg eh ei
        subst eg
        obtain ⟨q1, q2⟩ := ST21.out.ownCell 0 rfl 1 rfl
        clear eh ei
        go_upto_region 10 with fail
        obtain ⟨w6, hw6⟩ : ∃ x, x = wr.setCell ⟨g, 1, none⟩ (.int .i64 1) := ⟨_, rfl⟩
        have ST22 := Lib.hid (show Sta Wb O p ds (⟨bo, o2.arr x', 118⟩ :: B) (⟨55, 8, .slice (some ⟨g, 0, none⟩) 1 c5, 1, houts ([a].map Ho.joins)⟩ :: L) (orows o2 x' R) w6 from hw6 ▸ ST21.out.ownPut 0 rfl 1 (by simp) (.int .i64 1))
        rw [← hw6]
        clear hw6 q1 q2 ST21
        go_wp2_with fail
        go_roundw
        case rel => exact ⟨1, by go_num, by simp, ST22.out⟩
        case measure => simp [intOf]
      · have hke : k = out2.length := by omega
        have HX : Hid (houts (if k = 0 then out2 else out2.map Ho.joins) = houts (out2.map Ho.joins)) := Lib.hid (by
          by_cases h0 : k = 0
          · have : out2 = [] := List.eq_nil_of_length_eq_zero (by omega)
            rw [this]
            simp
          · rw [if_neg h0])
        rw [HX.out] at ST21
        have ST23 := Lib.hid (show Sta Wb O p ds (⟨bo, o2.arr x', 118⟩ :: B) (⟨55, 8, .slice a5 out2.length c5, (out2.map Ho.joins).length, houts (out2.map Ho.joins)⟩ :: L) (orows o2 x' R) wr by rw [List.length_map]; exact ST21.out)
        subst hke
        clear ST21 HX hk hkl
        go_wp2_with fail
        go_ret
        exact ⟨x', _, rfl, ST23.out⟩

set_option maxHeartbeats 4000000 in
set_option maxRecDepth 100000 in
theorem ovFill_any (o : Ov) (x : OvP) (p : Value) (ds : List Int) (Wb : World) (O : Nat → Prop) (B : List Blk) (L : List Ow) (R : List Rw) (bo : Nat) (w : World) (st : Sta Wb O p ds (⟨bo, o.arr x, 118⟩ :: B) L (orows o x R) w) (g : o.Ok) :
    Calls Try.prog 56 #[.pointer (some ⟨bo, 0, none⟩), p] w (OEnd Wb O p (oFill o ds).2.2 B L R bo (oFill o ds).1 (oFill o ds).2.1) := by
  obtain ⟨iz, hz1, hz2, hz3⟩ := info_pair Try.zeroView
  obtain ⟨o', out, dn, hh⟩ : ∃ a b c, oFill o ds = (a, b, c) := ⟨_, _, _, rfl⟩
  rw [hh]
  simp only
  have HH := Lib.hid hh
  have HG := Lib.hid g
  have CF := Lib.hid (fun w => setFull_any x.x.x.aa o.h.v.act.length x.x.x.ac o.h.v.am w)
  rw [show decide (o.h.v.am ≤ (o.h.v.act.length : Int)) = vaFull o.h.v from rfl] at CF
  have CK := Lib.hid (fun w => setLen_any x.x.ka o.h.asked.length x.x.kc 64 w)
  have CA := Lib.hid (fun w => setLen_any x.x.x.aa o.h.v.act.length x.x.x.ac o.h.v.am w)
  have CP := Lib.hid (fun w (h1 : SlA w x.x.x.pa o.h.v.pas.length x.x.x.pc (ints o.h.v.pas)) => setAll_any x.x.x.pa x.x.x.pc o.h.v.pas o.h.v.pm w h1 HG.out.h.v.pas)
  have CO := Lib.hid (fun a c w (hD : DrawV w p ds) (hs : SlA w a o.h.v.pas.length c (ints o.h.v.pas)) (hne : ∀ q, a = some q → ¬ pblk p q.block) => oneInt_any p ds a c o.h.v.pas w hD hs hne)
  unfold OneEnd at CO
  obtain ⟨n1, k1, d1, h1⟩ : ∃ a b c, oneV ds o.h.v.pas = (a, b, c) := ⟨_, _, _, rfl⟩
  have HO := Lib.hid h1
  rw [h1] at CO
  simp only at CO
  have CX := Lib.hid (fun ds L w (h1 : Sta Wb O p ds (⟨bo, o.arr x, 118⟩ :: B) L (orows o x R) w) => ovAsk_any o x n1 (o.h.v.act.length == 0) p ds Wb O B L R bo w h1 HG.out.h)
  have CJ := Lib.hid (fun ds L w (h1 : Sta Wb O p ds (⟨bo, o.arr x, 118⟩ :: B) L (orows o x R) w) => ovJoin_any o x p ds Wb O B L R bo w h1 HG.out)
  clear hh g h1
  have ST1 := Lib.hid st
  clear st
  go_enter Try.func56, Try.ntmps56
  have l12 := (ST1.out.rowAt 1 rfl).le
  have l13 := (ST1.out.rowAt 1 rfl).max
  have l14 := (ST1.out.rowAt 2 rfl).le
  have l15 := (ST1.out.rowAt 2 rfl).max
  have l16 := (ST1.out.rowAt 3 rfl).le
  have l17 := (ST1.out.rowAt 3 rfl).max
  go_upto_region 1 with fail
  go_wp2_with (refine wpList_load_mid (by rfl) 29 _ (by rfl) bo 8 (by rfl) (Array.toList (o.h.v.arr x.x.x)) _ (rangeIn (cs := o.arr x) (ST1.out.blkAt 0 rfl) 8 (by rfl)) Try.underlying29 rfl Try.infoView ?_; refine wpList_fresh (vs := o.h.v.arr x.x.x) hz1 hz2 Try.infoView (by rfl) (by rw [← Array.all_toList]; rfl) (by rfl) (by rfl) ?_)
  intro w2 f_ b_ l_
  obtain ⟨z, hb_⟩ : ∃ b, b = w.heap.size := ⟨_, rfl⟩
  rw [← hb_] at b_ l_ ⊢
  have ST2 := Lib.hid (show Sta Wb O p ds (⟨z, o.h.v.arr x.x.x, 29⟩ :: ⟨bo, o.arr x, 118⟩ :: B) L (orows o x R) w2 from ST1.out.var f_ b_ (Nat.le_of_eq hb_.symm))
  clear ST1 f_ b_ l_ hb_
  have a1 : w2.cell? ⟨z, 1, none⟩ = some (.slice x.x.x.aa o.h.v.act.length x.x.x.ac) := ST2.out.cell 0 1 rfl rfl
  have a2 : w2.cell? ⟨z, 2, none⟩ = some (.int .i64 o.h.v.am) := ST2.out.cell 0 2 rfl rfl
  go_upto_region 2 with fail
  go_wp2_with fail
  refine (CF.out _).mono ?_
  rintro e w3 ⟨rfl, f_⟩
  clear a1 a2 CF
  have ST3 := Lib.hid (show Sta Wb O p ds (⟨z, o.h.v.arr x.x.x, 29⟩ :: ⟨bo, o.arr x, 118⟩ :: B) L (orows o x R) w3 from ST2.out.gr f_)
  clear ST2 f_
  generalize hF : vaFull o.h.v = F
  have HFE := Lib.hid hF
  clear hF
  cases F
  case true =>
    obtain ⟨rfl, rfl, rfl⟩ : o = o' ∧ [] = out ∧ ds = dn := by
      have hh := HH.out
      rw [show oFill o ds = (o, [], ds) by unfold oFill; simp [HFE.out]] at hh
      injection hh with a b
      injection b with b c
      exact ⟨a, b, c⟩
    clear HH HFE CK CA CP CO HO CX CJ
    go_wp2_with fail
    go_ret
    exact ⟨x, _, rfl, (((ST3.out.lessB (List.Sublist.cons _ (List.Sublist.refl _))).less (List.Sublist.refl _) (inC (at_ 0 rfl) (inC (at_ 1 rfl) (inC (at_ 2 rfl) (inC (at_ 3 rfl) (fun _ h => List.mem_cons_of_mem _ (List.mem_cons_of_mem _ (List.mem_cons_of_mem _ (List.mem_cons_of_mem _ (h)))))))))).ownNil _ _)⟩
  case false =>
    have k1c : w3.cell? ⟨bo, 13, none⟩ = some (.slice x.x.ka o.h.asked.length x.x.kc) := ST3.out.cell 1 13 rfl rfl
    have k2c : w3.cell? ⟨bo, 14, none⟩ = some (.int .i64 64) := ST3.out.cell 1 14 rfl rfl
    go_wp2_with fail
    refine (CK.out _).mono ?_
    rintro e w4 ⟨rfl, f_⟩
    clear k1c k2c CK
    have ST4 := Lib.hid (show Sta Wb O p ds (⟨z, o.h.v.arr x.x.x, 29⟩ :: ⟨bo, o.arr x, 118⟩ :: B) L (orows o x R) w4 from ST3.out.gr f_)
    clear ST3 f_
    by_cases hk : 0 < o.h.asked.length
    · have hk2 : decide ((0 : Int) < (o.h.asked.length : Int)) = true := decide_eq_true (by omega)
      obtain ⟨rfl, rfl, rfl⟩ : o = o' ∧ [] = out ∧ ds = dn := by
        have hh := HH.out
        rw [show oFill o ds = (o, [], ds) by unfold oFill; simp [HFE.out, hk]] at hh
        injection hh with a b
        injection b with b c
        exact ⟨a, b, c⟩
      clear HH HFE CA CP CO HO CX CJ
      go_wp2_with fail
      go_ret
      exact ⟨x, _, rfl, (((ST4.out.lessB (List.Sublist.cons _ (List.Sublist.refl _))).less (List.Sublist.refl _) (inC (at_ 0 rfl) (inC (at_ 1 rfl) (inC (at_ 2 rfl) (inC (at_ 3 rfl) (fun _ h => List.mem_cons_of_mem _ (List.mem_cons_of_mem _ (List.mem_cons_of_mem _ (List.mem_cons_of_mem _ (h)))))))))).ownNil _ _)⟩
    · have hk2 : decide ((0 : Int) < (o.h.asked.length : Int)) = false := decide_eq_false (by omega)
      have p1 : w4.cell? ⟨z, 3, none⟩ = some (.slice x.x.x.pa o.h.v.pas.length x.x.x.pc) := ST4.out.cell 0 3 rfl rfl
      have p2 : w4.cell? ⟨z, 4, none⟩ = some (.int .i64 o.h.v.pm) := ST4.out.cell 0 4 rfl rfl
      go_upto_region 4 with fail
      clear hk2
      go_wp2_with fail
      refine (CP.out _ (ST4.out.rowAt 2 rfl)).mono ?_
      rintro e w5 ⟨vv, rfl, ho, hb⟩
      obtain ⟨ra, rc, rfl, hsr, hlo, -⟩ := SlA.of_own ho
      have f_ := Gr.of_below hb
      have HLO := Lib.hid (fun q (hq : ra = some q) (hk : pblk p q.block) => show False by have h1 := (hlo q hq).1; have h2 := ST4.out.lt hk; omega)
      clear ho hb hlo p1 p2 CP
      have ST5 := Lib.hid (show Sta Wb O p ds (⟨z, o.h.v.arr x.x.x, 29⟩ :: ⟨bo, o.arr x, 118⟩ :: B) L (orows o x R) w5 from ST4.out.gr f_)
      clear ST4 f_
      have COx := CO.out ra rc w5 ST5.out.dr hsr HLO.out
      have m1 := hsr.le
      have m2 := hsr.max
      clear hsr HLO CO
      go_wp2_with fail
      refine COx.mono ?_
      rintro e w6 ⟨rfl, d_, f_⟩
      clear COx
      have ST6 := Lib.hid (show Sta Wb O p d1 (⟨z, o.h.v.arr x.x.x, 29⟩ :: ⟨bo, o.arr x, 118⟩ :: B) L (orows o x R) w6 from ST5.out.call f_ d_)
      clear ST5 d_ f_
      cases k1
      case true =>
        have a1 : w6.cell? ⟨z, 1, none⟩ = some (.slice x.x.x.aa o.h.v.act.length x.x.x.ac) := ST6.out.cell 0 1 rfl rfl
        have a2 : w6.cell? ⟨z, 2, none⟩ = some (.int .i64 o.h.v.am) := ST6.out.cell 0 2 rfl rfl
        go_upto_region 6 with fail
        go_wp2_with fail
        refine (CA.out _).mono ?_
        rintro e w7 ⟨rfl, f_⟩
        clear a1 a2 CA
        have ST7 := Lib.hid (show Sta Wb O p d1 (⟨z, o.h.v.arr x.x.x, 29⟩ :: ⟨bo, o.arr x, 118⟩ :: B) L (orows o x R) w7 from ST6.out.gr f_)
        clear ST6 f_
        have STx := Lib.hid (show Sta Wb O p d1 (⟨bo, o.arr x, 118⟩ :: B) L (orows o x R) w7 from (ST7.out.lessB (List.Sublist.cons _ (List.Sublist.refl _))).less (List.Sublist.refl _) (inC (at_ 0 rfl) (inC (at_ 1 rfl) (inC (at_ 2 rfl) (inC (at_ 3 rfl) (fun _ h => List.mem_cons_of_mem _ (List.mem_cons_of_mem _ (List.mem_cons_of_mem _ (List.mem_cons_of_mem _ (h))))))))))
        clear ST7
        obtain ⟨bz, hbz⟩ : ∃ b, b = (o.h.v.act.length == 0) := ⟨_, rfl⟩
        rw [← hbz] at CX
        obtain ⟨o2, out2, h2⟩ : ∃ a b, oAsk o n1 bz = (a, b) := ⟨_, _, rfl⟩
        rw [h2] at CX
        simp only at CX
        obtain ⟨rfl, rfl, rfl⟩ : o2 = o' ∧ out2 = out ∧ d1 = dn := by
          have hh := HH.out
          rw [show oFill o ds = (o2, out2, d1) by unfold oFill; simp only [HFE.out, HO.out, ← hbz, h2, Bool.false_eq_true, if_false, if_neg hk, if_true]] at hh
          injection hh with a b
          injection b with b c
          exact ⟨a, b, c⟩
        clear HH HFE hk HO CJ
        clear h2
        have hbi : ((o.h.v.act.length : Int) == 0) = bz := by
          rw [hbz, Bool.eq_iff_iff]
          simp
        have HBZ := Lib.hid hbz
        clear hbz
        by_cases h0 : o.h.v.act.length = 0
        · obtain rfl : bz = true := by rw [HBZ.out]; simpa using h0
          have hbi2 : (o.h.v.act.length == 0) = true := HBZ.out.symm
          clear h0
          go_wp2_with fail
          refine (CX.out _ _ _ STx.out).mono ?_
          rintro e w8 ⟨x', ov, rfl, hst⟩
          have ST50 := Lib.hid hst
          clear hst CX STx hbi hbi2
          go_wp2_with fail
          go_ret
          exact ⟨x', ov, rfl, ST50.out⟩
        · obtain rfl : bz = false := by rw [HBZ.out]; simpa using h0
          have hbi2 : (o.h.v.act.length == 0) = false := HBZ.out.symm
          clear h0
          go_wp2_with fail
          refine (CX.out _ _ _ STx.out).mono ?_
          rintro e w8 ⟨x', ov, rfl, hst⟩
          have ST50 := Lib.hid hst
          clear hst CX STx hbi hbi2
          go_wp2_with fail
          go_ret
          exact ⟨x', ov, rfl, ST50.out⟩
      case false =>
        have a1 : w6.cell? ⟨z, 1, none⟩ = some (.slice x.x.x.aa o.h.v.act.length x.x.x.ac) := ST6.out.cell 0 1 rfl rfl
        have a2 : w6.cell? ⟨z, 2, none⟩ = some (.int .i64 o.h.v.am) := ST6.out.cell 0 2 rfl rfl
        go_upto_region 7 with fail
        go_wp2_with fail
        refine (CA.out _).mono ?_
        rintro e w7 ⟨rfl, f_⟩
        clear a1 a2 CA
        have ST7 := Lib.hid (show Sta Wb O p d1 (⟨z, o.h.v.arr x.x.x, 29⟩ :: ⟨bo, o.arr x, 118⟩ :: B) L (orows o x R) w7 from ST6.out.gr f_)
        clear ST6 f_
        by_cases ha : 0 < o.h.v.act.length
        · have hk2 : decide ((0 : Int) < (o.h.v.act.length : Int)) = true := decide_eq_true (by omega)
          obtain ⟨rfl, rfl, rfl⟩ : o = o' ∧ [] = out ∧ d1 = dn := by
            have hh := HH.out
            rw [show oFill o ds = (o, [], d1) by unfold oFill; simp [HFE.out, HO.out, hk, ha]] at hh
            injection hh with a b
            injection b with b c
            exact ⟨a, b, c⟩
          clear HH HFE HO CX CJ hk
          go_wp2_with fail
          go_ret
          exact ⟨x, _, rfl, (((ST7.out.lessB (List.Sublist.cons _ (List.Sublist.refl _))).less (List.Sublist.refl _) (inC (at_ 0 rfl) (inC (at_ 1 rfl) (inC (at_ 2 rfl) (inC (at_ 3 rfl) (fun _ h => List.mem_cons_of_mem _ (List.mem_cons_of_mem _ (List.mem_cons_of_mem _ (List.mem_cons_of_mem _ (h)))))))))).ownNil _ _)⟩
        · have hk2 : decide ((0 : Int) < (o.h.v.act.length : Int)) = false := decide_eq_false (by omega)
          obtain ⟨o2, out2, h2⟩ : ∃ a b, oJoin o = (a, b) := ⟨_, _, rfl⟩
          rw [h2] at CJ
          simp only at CJ
          obtain ⟨rfl, rfl, rfl⟩ : o2 = o' ∧ out2 = out ∧ d1 = dn := by
            have hh := HH.out
            rw [show oFill o ds = (o2, out2, d1) by unfold oFill; simp [HFE.out, HO.out, hk, ha, h2]] at hh
            injection hh with a b
            injection b with b c
            exact ⟨a, b, c⟩
          clear HH HFE hk HO CX
          clear h2
          go_upto_region 9 with fail
          clear hk2
          have STx := Lib.hid (show Sta Wb O p d1 (⟨bo, o.arr x, 118⟩ :: B) L (orows o x R) w7 from (ST7.out.lessB (List.Sublist.cons _ (List.Sublist.refl _))).less (List.Sublist.refl _) (inC (at_ 0 rfl) (inC (at_ 1 rfl) (inC (at_ 2 rfl) (inC (at_ 3 rfl) (fun _ h => List.mem_cons_of_mem _ (List.mem_cons_of_mem _ (List.mem_cons_of_mem _ (List.mem_cons_of_mem _ (h))))))))))
          go_wp2_with fail
          refine (CJ.out _ _ _ STx.out).mono ?_
          rintro e w8 ⟨x', ov, rfl, hst⟩
          have ST50 := Lib.hid hst
          clear hst CJ ST7
          go_wp2_with fail
          go_ret
          exact ⟨x', ov, rfl, ST50.out⟩

theorem exec_bldSz (ρ : Operand → Value) (w : World) (dst : Option Tmp) (ty : TypeId) (pos : String) (after : Array Edge) {x0 x1 : Operand} {i0 i1 : Int} (h0 : ρ x0 = .int .i64 i0) (h1 : ρ x1 = .int .i64 i1) :
    (execOp ρ ⟨dst, .build 121 #[(0, x0), (1, x1)], ty, pos, after, none⟩).run Try.prog w = .ok (.value (.agg #[.int .i64 i0, .int .i64 i1])) w := by simp [go_sem, h0, h1]
theorem wpList_bldSz {ops : Array Oper} {rest : List Oper} {dst : Option Tmp} {ty : TypeId} {pos : String} {after : Array Edge} {A : Act} {w : World} {Q : Exit → Act → World → Prop} {x0 x1 : Operand} {i0 i1 : Int} (h0 : A.eval x0 = .int .i64 i0) (h1 : A.eval x1 = .int .i64 i1)
    (h : wpList Try.prog ops Q rest (A.put dst (.agg #[.int .i64 i0, .int .i64 i1])) w) : wpList Try.prog ops Q (⟨dst, .build 121 #[(0, x0), (1, x1)], ty, pos, after, none⟩ :: rest) A w := by
  refine wpList_plain rfl fun K hK => ?_
  unfold Oper.wp
  rw [exec_bldSz A.eval w dst ty pos after h0 h1]
  exact hK _ _ h
theorem fill_cfg (o : Ov) (ds : List Int) : (oFill o ds).1.c = o.c ∧ (oFill o ds).1.ticks = o.ticks := by
  unfold oFill
  split
  · exact ⟨rfl, rfl⟩
  · split
    · exact ⟨rfl, rfl⟩
    · split
      · exact ⟨rfl, rfl⟩
      · split
        · exact ⟨rfl, rfl⟩
        · unfold oJoin
          split <;> exact ⟨rfl, rfl⟩
set_option maxHeartbeats 4000000 in
set_option maxRecDepth 100000 in
theorem ovTick_any (o : Ov) (x : OvP) (p : Value) (ds : List Int) (Wb : World) (O : Nat → Prop) (B : List Blk) (L : List Ow) (R : List Rw) (bo : Nat) (w : World) (st : Sta Wb O p ds (⟨bo, o.arr x, 118⟩ :: B) L (orows o x R) w) (g : o.Ok) :
    Calls Try.prog 23 #[.pointer (some ⟨bo, 0, none⟩), p] w (OEndM Wb O p (oTick o ds).2.2 B L R bo (oTick o ds).1 (oTick o ds).2.1) := by
  obtain ⟨o', out, dn, hh⟩ : ∃ a b c, oTick o ds = (a, b, c) := ⟨_, _, _, rfl⟩
  rw [hh]
  simp only
  have HH := Lib.hid hh
  have HG := Lib.hid (g.fill ds)
  have HF1 := Lib.hid (oFill_one o ds)
  have CF := Lib.hid (fun w (h1 : Sta Wb O p ds (⟨bo, o.arr x, 118⟩ :: B) L (orows o x R) w) => ovFill_any o x p ds Wb O B L R bo w h1 g)
  obtain ⟨o1, out1, d1, h1⟩ : ∃ a b c, oFill o ds = (a, b, c) := ⟨_, _, _, rfl⟩
  rw [h1] at CF HG HF1
  simp only at CF HG HF1
  have HFL := Lib.hid h1
  obtain ⟨tk, htk⟩ : ∃ tk, (o1.ticks + 1).tmod o1.c.every = tk := ⟨_, rfl⟩
  have HT1 := Lib.hid (show oTick o ds = (if (tk == 0) = true then ({ o1 with ticks := tk }, out1.map Ho.ms ++ (oStart o1.h.v o1.c.mixA o1.c.mixP o1.c.far d1).1, (oStart o1.h.v o1.c.mixA o1.c.mixP o1.c.far d1).2) else ({ o1 with ticks := tk }, out1.map Ho.ms, d1)) by
    unfold oTick
    rw [h1]
    simp only [htk])
  clear hh h1 g
  have ST1 := Lib.hid st
  clear st
  go_enter Try.func23, Try.ntmps23
  go_upto_region 3 with fail
  go_wp2_with fail
  refine (CF.out _ ST1.out).mono ?_
  rintro e w2 ⟨x1, ov, rfl, hst⟩
  have ST2 := Lib.hid hst
  clear hst CF ST1
  obtain ⟨tk0, tk1⟩ := HG.out.ticks
  obtain ⟨ev0, ev1⟩ := HG.out.every
  have evz : ¬ o1.c.every = 0 := by omega
  go_upto_region 4 with fail
  obtain ⟨w3, hwd⟩ : ∃ x, x = w2.drew := ⟨_, rfl⟩
  have HWD := Lib.hid hwd
  have ST3 := Lib.hid (show Sta Wb O p d1 (⟨bo, o1.arr x1, 118⟩ :: B) (⟨55, 8, ov, out1.length, houts out1⟩ :: L) (orows o1 x1 R) w3 from hwd ▸ ST2.out.gr ((Fr.refl _ _).drew))
  clear ST2 hwd
  haveI : Nonempty (WC (fun w => w.heap[bo]? = some (.cells (o1.arr x1) 118 (0, 0)))) := ⟨⟨w3, ST3.out.blkAt 0 rfl⟩⟩
  have z15 : ∀ z : WC (fun w => w.heap[bo]? = some (.cells (o1.arr x1) 118 (0, 0))), z.val.cell? ⟨bo, 15, none⟩ = some (.int .i64 o1.ticks) := fun z => by rw [Lib.cell_of_heap z.ok]; rfl
  have z6 : ∀ z : WC (fun w => w.heap[bo]? = some (.cells (o1.arr x1) 118 (0, 0))), z.val.cell? ⟨bo, 6, none⟩ = some (.int .i64 o1.c.every) := fun z => by rw [Lib.cell_of_heap z.ok]; rfl
  refine wp_region_lastO 14 [] [] [0, 1, 2, 3, 4, 5, 6, 7, 8, 9, 10, 11, 12, 13] (fun w' => ∃ z : WC (fun w => w.heap[bo]? = some (.cells (o1.arr x1) 118 (0, 0))), w' = z.val) (by kernel_rfl) (by kernel_rfl) (fun c a w d v h => by cases d <;> exact h) (fun c a w d v h => by cases d <;> exact h) (by rw [← HWD.out]; exact ⟨⟨w3, ST3.out.blkAt 0 rfl⟩, rfl⟩) ?_
  rw [← HWD.out]
  clear HWD
  simp only [List.take]
  refine wpT_q (by simp only [List.getElem?_toArray, List.getElem?_cons_zero] <;> rfl) (by rfl) (by rfl) ?_
  go_big_quiet_step (fail)
  refine wpQuiet_nil ?_
  refine wpT_q (by simp only [List.getElem?_toArray, List.getElem?_cons_succ, List.getElem?_cons_zero] <;> rfl) (by rfl) (by rfl) ?_
  go_big_quiet_step (fail)
  refine wpQuiet_nil ?_
  refine wpT_q (by simp only [List.getElem?_toArray, List.getElem?_cons_succ, List.getElem?_cons_zero] <;> rfl) (by rfl) (by rfl) ?_
  go_big_quiet_step (fail)
  refine wpQuiet_nil ?_
  refine wpT_q (by simp only [List.getElem?_toArray, List.getElem?_cons_succ, List.getElem?_cons_zero] <;> rfl) (by rfl) (by rfl) ?_
  go_big_quiet_step (fail)
  refine wpQuiet_nil ?_
  refine wpT_q (by simp only [List.getElem?_toArray, List.getElem?_cons_succ, List.getElem?_cons_zero] <;> rfl) (by rfl) (by rfl) ?_
  go_big_quiet_step (fail)
  refine wpQuiet_nil ?_
  refine wpT_q (by simp only [List.getElem?_toArray, List.getElem?_cons_succ, List.getElem?_cons_zero] <;> rfl) (by rfl) (by rfl) ?_
  go_big_quiet_step (fail)
  refine wpQuiet_nil ?_
  refine wpT_q (by simp only [List.getElem?_toArray, List.getElem?_cons_succ, List.getElem?_cons_zero] <;> rfl) (by rfl) (by rfl) ?_
  go_big_quiet_step (fail)
  refine wpQuiet_nil ?_
  refine wpT_q (by simp only [List.getElem?_toArray, List.getElem?_cons_succ, List.getElem?_cons_zero] <;> rfl) (by rfl) (by rfl) ?_
  go_big_quiet_step (fail)
  refine wpQuiet_nil ?_
  refine wpT_q (by simp only [List.getElem?_toArray, List.getElem?_cons_succ, List.getElem?_cons_zero] <;> rfl) (by rfl) (by rfl) ?_
  go_big_quiet_step (fail)
  refine wpQuiet_nil ?_
  refine wpT_q (by simp only [List.getElem?_toArray, List.getElem?_cons_succ, List.getElem?_cons_zero] <;> rfl) (by rfl) (by rfl) ?_
  go_big_quiet_step (fail)
  refine wpQuiet_nil ?_
  refine wpT_q (by simp only [List.getElem?_toArray, List.getElem?_cons_succ, List.getElem?_cons_zero] <;> rfl) (by rfl) (by rfl) ?_
  go_big_quiet_step (fail)
  refine wpQuiet_nil ?_
  refine wpT_q (by simp only [List.getElem?_toArray, List.getElem?_cons_succ, List.getElem?_cons_zero] <;> rfl) (by rfl) (by rfl) ?_
  go_big_quiet_step (fail)
  refine wpQuiet_nil ?_
  refine wpT_q (by simp only [List.getElem?_toArray, List.getElem?_cons_succ, List.getElem?_cons_zero] <;> rfl) (by rfl) (by rfl) ?_
  go_big_quiet_step (fail)
  refine wpQuiet_nil ?_
  refine wpT_q (by simp only [List.getElem?_toArray, List.getElem?_cons_succ, List.getElem?_cons_zero] <;> rfl) (by rfl) (by rfl) ?_
  go_big_quiet_step (fail)
  refine wpQuiet_nil ?_
  clear this z15 z6
  refine wpT_nil ?_
  simp only [lastQ, List.drop]
  have zf : w3.frozen? ⟨bo, 15, none⟩ = false := ST3.out.froz 0 15 rfl
  have zc : w3.cell? ⟨bo, 15, none⟩ = some (.int .i64 o1.ticks) := ST3.out.cell 0 15 rfl rfl
  go_upto_region 5 with fail
  obtain ⟨w4, hw_⟩ : ∃ x, x = w3.setCell ⟨bo, 15, none⟩ (.int .i64 tk) := ⟨_, rfl⟩
  rw [← hw_]
  have ST4 := Lib.hid (show Sta Wb O p d1 (⟨bo, #[.int .i64 o1.c.active, .int .i64 o1.c.passive, .int .i64 o1.c.far, .int .i64 o1.c.near, .int .i64 o1.c.mixA, .int .i64 o1.c.mixP, .int .i64 o1.c.every, .slice x1.sa o1.c.seeds.length x1.sc, .int .i64 o1.h.v.self, .slice x1.x.x.aa o1.h.v.act.length x1.x.x.ac, .int .i64 o1.h.v.am, .slice x1.x.x.pa o1.h.v.pas.length x1.x.x.pc, .int .i64 o1.h.v.pm, .slice x1.x.ka o1.h.asked.length x1.x.kc, .int .i64 64, .int .i64 tk, .int .i64 o1.seed], 118⟩ :: B) (⟨55, 8, ov, out1.length, houts out1⟩ :: L) (orows o1 x1 R) w4 from hw_ ▸ ST3.out.setC 0 rfl 15 (.int .i64 tk) (Nat.le_of_ble_eq_true rfl))
  clear ST3 hw_
  clear zf zc htk evz
  have y15 : w4.cell? ⟨bo, 15, none⟩ = some (.int .i64 tk) := ST4.out.cell 0 15 rfl rfl
  cases ht : (tk == 0)
  case false =>
    obtain ⟨rfl, rfl, rfl⟩ : ({ o1 with ticks := tk } : Ov) = o' ∧ out1.map Ho.ms = out ∧ d1 = dn := by
      have hh := HH.out
      rw [show oTick o ds = (({ o1 with ticks := tk } : Ov), out1.map Ho.ms, d1) by rw [HT1.out, ht]; rfl] at hh
      injection hh with a b
      injection b with b c
      exact ⟨a, b, c⟩
    clear HH HT1 HFL
    go_wp2_with fail
    go_ret
    refine ⟨x1, ov, out1.map Ho.om, by rw [List.map_map]; rfl, rfl, ?_⟩
    rw [List.length_map]
    have hX := ST4.out.addNils (k := (out1.map Ho.om).map Om.row) (by
      intro r hr
      rw [List.map_map] at hr
      obtain ⟨a, -, rfl⟩ := List.mem_map.1 hr
      exact ⟨rfl, Nat.le_refl _, Nat.zero_le _⟩)
    rw [show oms (out1.map Ho.om) = houts out1 from (houts_oms out1).symm]
    exact hX
  case true =>
    have CS := Lib.hid (fun w (h1 : VwAt w o1.h.v x1.x.x) (h2 : DrawV w p d1) (h3 : VwSep p o1.h.v x1.x.x) => mixStart_any o1.h.v x1.x.x o1.c.mixA o1.c.mixP o1.c.far p d1 w h1 h2 h3 (by have := HG.out.mixA; omega) (by have := HG.out.mixP; omega))
    go_upto_region 6 with fail
    clear y15
    obtain ⟨w5, hwd⟩ : ∃ x, x = w4.drew := ⟨_, rfl⟩
    have HWD := Lib.hid hwd
    have ST5 := Lib.hid (show Sta Wb O p d1 (⟨bo, #[.int .i64 o1.c.active, .int .i64 o1.c.passive, .int .i64 o1.c.far, .int .i64 o1.c.near, .int .i64 o1.c.mixA, .int .i64 o1.c.mixP, .int .i64 o1.c.every, .slice x1.sa o1.c.seeds.length x1.sc, .int .i64 o1.h.v.self, .slice x1.x.x.aa o1.h.v.act.length x1.x.x.ac, .int .i64 o1.h.v.am, .slice x1.x.x.pa o1.h.v.pas.length x1.x.x.pc, .int .i64 o1.h.v.pm, .slice x1.x.ka o1.h.asked.length x1.x.kc, .int .i64 64, .int .i64 tk, .int .i64 o1.seed], 118⟩ :: B) (⟨55, 8, ov, out1.length, houts out1⟩ :: L) (orows o1 x1 R) w5 from hwd ▸ ST4.out.gr ((Fr.refl _ _).drew))
    clear ST4 hwd
    haveI : Nonempty (WC (fun w => w.heap[bo]? = some (.cells (#[.int .i64 o1.c.active, .int .i64 o1.c.passive, .int .i64 o1.c.far, .int .i64 o1.c.near, .int .i64 o1.c.mixA, .int .i64 o1.c.mixP, .int .i64 o1.c.every, .slice x1.sa o1.c.seeds.length x1.sc, .int .i64 o1.h.v.self, .slice x1.x.x.aa o1.h.v.act.length x1.x.x.ac, .int .i64 o1.h.v.am, .slice x1.x.x.pa o1.h.v.pas.length x1.x.x.pc, .int .i64 o1.h.v.pm, .slice x1.x.ka o1.h.asked.length x1.x.kc, .int .i64 64, .int .i64 tk, .int .i64 o1.seed]) 118 (0, 0)) ∧ w.cell? ⟨bo, 2, none⟩ = some (.int .i64 o1.c.far) ∧ w.cell? ⟨bo, 4, none⟩ = some (.int .i64 o1.c.mixA) ∧ w.cell? ⟨bo, 5, none⟩ = some (.int .i64 o1.c.mixP))) := ⟨⟨w5, ⟨ST5.out.blkAt 0 rfl, ST5.out.cell 0 2 rfl rfl, ST5.out.cell 0 4 rfl rfl, ST5.out.cell 0 5 rfl rfl⟩⟩⟩
    have z2 : ∀ z : WC (fun w => w.heap[bo]? = some (.cells (#[.int .i64 o1.c.active, .int .i64 o1.c.passive, .int .i64 o1.c.far, .int .i64 o1.c.near, .int .i64 o1.c.mixA, .int .i64 o1.c.mixP, .int .i64 o1.c.every, .slice x1.sa o1.c.seeds.length x1.sc, .int .i64 o1.h.v.self, .slice x1.x.x.aa o1.h.v.act.length x1.x.x.ac, .int .i64 o1.h.v.am, .slice x1.x.x.pa o1.h.v.pas.length x1.x.x.pc, .int .i64 o1.h.v.pm, .slice x1.x.ka o1.h.asked.length x1.x.kc, .int .i64 64, .int .i64 tk, .int .i64 o1.seed]) 118 (0, 0)) ∧ w.cell? ⟨bo, 2, none⟩ = some (.int .i64 o1.c.far) ∧ w.cell? ⟨bo, 4, none⟩ = some (.int .i64 o1.c.mixA) ∧ w.cell? ⟨bo, 5, none⟩ = some (.int .i64 o1.c.mixP)), z.val.cell? ⟨bo, 2, none⟩ = some (.int .i64 o1.c.far) := fun z => z.ok.2.1
    have z4 : ∀ z : WC (fun w => w.heap[bo]? = some (.cells (#[.int .i64 o1.c.active, .int .i64 o1.c.passive, .int .i64 o1.c.far, .int .i64 o1.c.near, .int .i64 o1.c.mixA, .int .i64 o1.c.mixP, .int .i64 o1.c.every, .slice x1.sa o1.c.seeds.length x1.sc, .int .i64 o1.h.v.self, .slice x1.x.x.aa o1.h.v.act.length x1.x.x.ac, .int .i64 o1.h.v.am, .slice x1.x.x.pa o1.h.v.pas.length x1.x.x.pc, .int .i64 o1.h.v.pm, .slice x1.x.ka o1.h.asked.length x1.x.kc, .int .i64 64, .int .i64 tk, .int .i64 o1.seed]) 118 (0, 0)) ∧ w.cell? ⟨bo, 2, none⟩ = some (.int .i64 o1.c.far) ∧ w.cell? ⟨bo, 4, none⟩ = some (.int .i64 o1.c.mixA) ∧ w.cell? ⟨bo, 5, none⟩ = some (.int .i64 o1.c.mixP)), z.val.cell? ⟨bo, 4, none⟩ = some (.int .i64 o1.c.mixA) := fun z => z.ok.2.2.1
    have z5 : ∀ z : WC (fun w => w.heap[bo]? = some (.cells (#[.int .i64 o1.c.active, .int .i64 o1.c.passive, .int .i64 o1.c.far, .int .i64 o1.c.near, .int .i64 o1.c.mixA, .int .i64 o1.c.mixP, .int .i64 o1.c.every, .slice x1.sa o1.c.seeds.length x1.sc, .int .i64 o1.h.v.self, .slice x1.x.x.aa o1.h.v.act.length x1.x.x.ac, .int .i64 o1.h.v.am, .slice x1.x.x.pa o1.h.v.pas.length x1.x.x.pc, .int .i64 o1.h.v.pm, .slice x1.x.ka o1.h.asked.length x1.x.kc, .int .i64 64, .int .i64 tk, .int .i64 o1.seed]) 118 (0, 0)) ∧ w.cell? ⟨bo, 2, none⟩ = some (.int .i64 o1.c.far) ∧ w.cell? ⟨bo, 4, none⟩ = some (.int .i64 o1.c.mixA) ∧ w.cell? ⟨bo, 5, none⟩ = some (.int .i64 o1.c.mixP)), z.val.cell? ⟨bo, 5, none⟩ = some (.int .i64 o1.c.mixP) := fun z => z.ok.2.2.2
    refine wp_region_plan [16, 23, 24, 25] (Plan.seq [0, 1, 2, 3, 4, 5, 6, 7, 8, 9, 10, 11, 12, 13, 14, 15, 16, 17, 18, 19, 20, 21, 22, 23, 24, 25] .done) (fun w' => ∃ z : WC (fun w => w.heap[bo]? = some (.cells (#[.int .i64 o1.c.active, .int .i64 o1.c.passive, .int .i64 o1.c.far, .int .i64 o1.c.near, .int .i64 o1.c.mixA, .int .i64 o1.c.mixP, .int .i64 o1.c.every, .slice x1.sa o1.c.seeds.length x1.sc, .int .i64 o1.h.v.self, .slice x1.x.x.aa o1.h.v.act.length x1.x.x.ac, .int .i64 o1.h.v.am, .slice x1.x.x.pa o1.h.v.pas.length x1.x.x.pc, .int .i64 o1.h.v.pm, .slice x1.x.ka o1.h.asked.length x1.x.kc, .int .i64 64, .int .i64 tk, .int .i64 o1.seed]) 118 (0, 0)) ∧ w.cell? ⟨bo, 2, none⟩ = some (.int .i64 o1.c.far) ∧ w.cell? ⟨bo, 4, none⟩ = some (.int .i64 o1.c.mixA) ∧ w.cell? ⟨bo, 5, none⟩ = some (.int .i64 o1.c.mixP)), w' = z.val) (by kernel_rfl) (by kernel_rfl) (fun c a w d v h => by cases d <;> exact h) (fun c a w d v h => by cases d <;> exact h) (by rw [← HWD.out]; exact ⟨⟨w5, ⟨ST5.out.blkAt 0 rfl, ST5.out.cell 0 2 rfl rfl, ST5.out.cell 0 4 rfl rfl, ST5.out.cell 0 5 rfl rfl⟩⟩, rfl⟩) ?_
    rw [← HWD.out]
    clear HWD
    refine wpV_q (by simp only [List.getElem?_toArray, List.getElem?_cons_zero] <;> rfl) (by rfl) (by rfl) ?_
    go_big_quiet_step (fail)
    refine wpQuiet_nil ?_
    refine wpV_q (by simp only [List.getElem?_toArray, List.getElem?_cons_succ, List.getElem?_cons_zero] <;> rfl) (by rfl) (by rfl) ?_
    go_big_quiet_step (fail)
    refine wpQuiet_nil ?_
    refine wpV_q (by simp only [List.getElem?_toArray, List.getElem?_cons_succ, List.getElem?_cons_zero] <;> rfl) (by rfl) (by rfl) ?_
    go_big_quiet_step (fail)
    refine wpQuiet_nil ?_
    refine wpV_q (by simp only [List.getElem?_toArray, List.getElem?_cons_succ, List.getElem?_cons_zero] <;> rfl) (by rfl) (by rfl) ?_
    go_big_quiet_step (fail)
    refine wpQuiet_nil ?_
    refine wpV_q (by simp only [List.getElem?_toArray, List.getElem?_cons_succ, List.getElem?_cons_zero] <;> rfl) (by rfl) (by rfl) ?_
    go_big_quiet_step (fail)
    refine wpQuiet_nil ?_
    refine wpV_q (by simp only [List.getElem?_toArray, List.getElem?_cons_succ, List.getElem?_cons_zero] <;> rfl) (by rfl) (by rfl) ?_
    refine wpQuiet_loadH (by rfl) 29 _ (by rfl) bo 8 (by rfl) (Array.toList (o1.h.v.arr x1.x.x)) _ (fun w ⟨z, hz⟩ => hz ▸ rangeIn z.ok.1 8 (by rfl)) Try.underlying29 rfl Try.infoView ?_
    refine wpQuiet_nil ?_
    simp only [Act.put, List.setIfInBounds_toArray, List.set_cons_succ, List.set_cons_zero]
    refine wpV_q (by simp only [List.getElem?_toArray, List.getElem?_cons_succ, List.getElem?_cons_zero] <;> rfl) (by rfl) (by rfl) ?_
    go_big_quiet_step (fail)
    refine wpQuiet_nil ?_
    refine wpV_q (by simp only [List.getElem?_toArray, List.getElem?_cons_succ, List.getElem?_cons_zero] <;> rfl) (by rfl) (by rfl) ?_
    go_big_quiet_step (fail)
    refine wpQuiet_nil ?_
    refine wpV_q (by simp only [List.getElem?_toArray, List.getElem?_cons_succ, List.getElem?_cons_zero] <;> rfl) (by rfl) (by rfl) ?_
    go_big_quiet_step (fail)
    refine wpQuiet_nil ?_
    refine wpV_q (by simp only [List.getElem?_toArray, List.getElem?_cons_succ, List.getElem?_cons_zero] <;> rfl) (by rfl) (by rfl) ?_
    go_big_quiet_step (fail)
    refine wpQuiet_nil ?_
    refine wpV_q (by simp only [List.getElem?_toArray, List.getElem?_cons_succ, List.getElem?_cons_zero] <;> rfl) (by rfl) (by rfl) ?_
    go_big_quiet_step (fail)
    refine wpQuiet_nil ?_
    refine wpV_q (by simp only [List.getElem?_toArray, List.getElem?_cons_succ, List.getElem?_cons_zero] <;> rfl) (by rfl) (by rfl) ?_
    go_big_quiet_step (fail)
    refine wpQuiet_nil ?_
    refine wpV_q (by simp only [List.getElem?_toArray, List.getElem?_cons_succ, List.getElem?_cons_zero] <;> rfl) (by rfl) (by rfl) ?_
    go_big_quiet_step (fail)
    refine wpQuiet_nil ?_
    refine wpV_q (by simp only [List.getElem?_toArray, List.getElem?_cons_succ, List.getElem?_cons_zero] <;> rfl) (by rfl) (by rfl) ?_
    go_big_quiet_step (fail)
    refine wpQuiet_nil ?_
    refine wpV_q (by simp only [List.getElem?_toArray, List.getElem?_cons_succ, List.getElem?_cons_zero] <;> rfl) (by rfl) (by rfl) ?_
    go_big_quiet_step (fail)
    refine wpQuiet_nil ?_
    refine wpV_q (by simp only [List.getElem?_toArray, List.getElem?_cons_succ, List.getElem?_cons_zero] <;> rfl) (by rfl) (by rfl) ?_
    go_big_quiet_step (fail)
    refine wpQuiet_nil ?_
    refine wpV_e (by simp only [List.getElem?_toArray, List.getElem?_cons_succ, List.getElem?_cons_zero] <;> rfl) (by rfl) ?_
    refine wpList_bldSz (by rfl) (by rfl) ?_
    refine wpList_nil ?_
    refine ⟨⟨⟨w5, ⟨ST5.out.blkAt 0 rfl, ST5.out.cell 0 2 rfl rfl, ST5.out.cell 0 4 rfl rfl, ST5.out.cell 0 5 rfl rfl⟩⟩, rfl⟩, ?_⟩
    simp only [Act.put, List.setIfInBounds_toArray, List.set_cons_succ, List.set_cons_zero]
    refine wpV_q (by simp only [List.getElem?_toArray, List.getElem?_cons_succ, List.getElem?_cons_zero] <;> rfl) (by rfl) (by rfl) ?_
    go_big_quiet_step (fail)
    refine wpQuiet_nil ?_
    refine wpV_q (by simp only [List.getElem?_toArray, List.getElem?_cons_succ, List.getElem?_cons_zero] <;> rfl) (by rfl) (by rfl) ?_
    go_big_quiet_step (fail)
    refine wpQuiet_nil ?_
    refine wpV_q (by simp only [List.getElem?_toArray, List.getElem?_cons_succ, List.getElem?_cons_zero] <;> rfl) (by rfl) (by rfl) ?_
    go_big_quiet_step (fail)
    refine wpQuiet_nil ?_
    refine wpV_q (by simp only [List.getElem?_toArray, List.getElem?_cons_succ, List.getElem?_cons_zero] <;> rfl) (by rfl) (by rfl) ?_
    go_big_quiet_step (fail)
    refine wpQuiet_nil ?_
    refine wpV_q (by simp only [List.getElem?_toArray, List.getElem?_cons_succ, List.getElem?_cons_zero] <;> rfl) (by rfl) (by rfl) ?_
    go_big_quiet_step (fail)
    refine wpQuiet_nil ?_
    refine wpV_q (by simp only [List.getElem?_toArray, List.getElem?_cons_succ, List.getElem?_cons_zero] <;> rfl) (by rfl) (by rfl) ?_
    go_big_quiet_step (fail)
    refine wpQuiet_nil ?_
    refine wpV_e (by simp only [List.getElem?_toArray, List.getElem?_cons_succ, List.getElem?_cons_zero] <;> rfl) (by rfl) ?_
    go_wp2_with fail
    refine (CS.out _ (ST5.out.vw (v := o1.h.v) (y := x1.x.x) (at_ 1 rfl) (at_ 2 rfl) HG.out.h.v) ST5.out.dr (ST5.out.sep (v := o1.h.v) (y := x1.x.x) (at_ 1 rfl) (at_ 2 rfl))).mono ?_
    intro e w6 hst
    obtain ⟨l2, ov2, hl2, rfl, hst2⟩ := ST5.out.callStart hst
    have ST6 := Lib.hid (show Sta Wb O p (oStart o1.h.v o1.c.mixA o1.c.mixP o1.c.far d1).2 (⟨bo, #[.int .i64 o1.c.active, .int .i64 o1.c.passive, .int .i64 o1.c.far, .int .i64 o1.c.near, .int .i64 o1.c.mixA, .int .i64 o1.c.mixP, .int .i64 o1.c.every, .slice x1.sa o1.c.seeds.length x1.sc, .int .i64 o1.h.v.self, .slice x1.x.x.aa o1.h.v.act.length x1.x.x.ac, .int .i64 o1.h.v.am, .slice x1.x.x.pa o1.h.v.pas.length x1.x.x.pc, .int .i64 o1.h.v.pm, .slice x1.x.ka o1.h.asked.length x1.x.kc, .int .i64 64, .int .i64 tk, .int .i64 o1.seed], 118⟩ :: B) (⟨55, 8, ov2, l2.length, oms l2⟩ :: ⟨55, 8, ov, out1.length, houts out1⟩ :: L) (l2.map Om.row ++ orows o1 x1 R) w6 from hst2)
    have HL2 := Lib.hid hl2
    clear hst hst2 hl2 CS ST5
    go_wp2_with fail
    refine ⟨⟨⟨w6, ⟨ST6.out.blkAt 0 rfl, ST6.out.cell 0 2 rfl rfl, ST6.out.cell 0 4 rfl rfl, ST6.out.cell 0 5 rfl rfl⟩⟩, rfl⟩, ?_⟩
    have hl21 : l2.length ≤ 1 := by
      have h := congrArg List.length HL2.out
      rw [List.length_map] at h
      rw [h]
      unfold oStart
      split <;> simp
    refine wpV_e (by simp only [List.getElem?_toArray, List.getElem?_cons_succ, List.getElem?_cons_zero] <;> rfl) (by rfl) ?_
    refine wpList_growJ (by rfl) _ _ 41 55 8 112 (.agg outZ) Try.underlying41 Try.infoOutB rfl (by decide) (by decide) (by rfl) ST6.out 1 0 rfl rfl (by rfl) (by rfl) (oms_one l2) (by have := HF1.out; omega) ?_
    intro v7 w7 hst
    refine wpList_nil ?_
    have ST7 := Lib.hid (show Sta Wb O p (oStart o1.h.v o1.c.mixA o1.c.mixP o1.c.far d1).2 (⟨bo, #[.int .i64 o1.c.active, .int .i64 o1.c.passive, .int .i64 o1.c.far, .int .i64 o1.c.near, .int .i64 o1.c.mixA, .int .i64 o1.c.mixP, .int .i64 o1.c.every, .slice x1.sa o1.c.seeds.length x1.sc, .int .i64 o1.h.v.self, .slice x1.x.x.aa o1.h.v.act.length x1.x.x.ac, .int .i64 o1.h.v.am, .slice x1.x.x.pa o1.h.v.pas.length x1.x.x.pc, .int .i64 o1.h.v.pm, .slice x1.x.ka o1.h.asked.length x1.x.kc, .int .i64 64, .int .i64 tk, .int .i64 o1.seed], 118⟩ :: B) (⟨55, 8, ov2, l2.length, oms l2⟩ :: ⟨55, 8, v7, out1.length + l2.length, houts out1 ++ oms l2⟩ :: L) (l2.map Om.row ++ orows o1 x1 R) w7 from hst)
    clear hst hl21 ST6
    refine ⟨⟨⟨w7, ⟨ST7.out.blkAt 0 rfl, ST7.out.cell 0 2 rfl rfl, ST7.out.cell 0 4 rfl rfl, ST7.out.cell 0 5 rfl rfl⟩⟩, rfl⟩, ?_⟩
    simp only [Act.put, List.setIfInBounds_toArray, List.set_cons_succ, List.set_cons_zero]
    refine wpV_e (by simp only [List.getElem?_toArray, List.getElem?_cons_succ, List.getElem?_cons_zero] <;> rfl) (by rfl) ?_
    go_wp2_with fail
    refine ⟨⟨⟨w7, ⟨ST7.out.blkAt 0 rfl, ST7.out.cell 0 2 rfl rfl, ST7.out.cell 0 4 rfl rfl, ST7.out.cell 0 5 rfl rfl⟩⟩, rfl⟩, ?_⟩
    refine wpV_done ?_
    clear z2 z4 z5 this
    obtain ⟨rfl, rfl, rfl⟩ : ({ o1 with ticks := tk } : Ov) = o' ∧ out1.map Ho.ms ++ (oStart o1.h.v o1.c.mixA o1.c.mixP o1.c.far d1).1 = out ∧ (oStart o1.h.v o1.c.mixA o1.c.mixP o1.c.far d1).2 = dn := by
      have hh := HH.out
      rw [show oTick o ds = (({ o1 with ticks := tk } : Ov), out1.map Ho.ms ++ (oStart o1.h.v o1.c.mixA o1.c.mixP o1.c.far d1).1, (oStart o1.h.v o1.c.mixA o1.c.mixP o1.c.far d1).2) by rw [HT1.out, ht]; rfl] at hh
      injection hh with a b
      injection b with b c
      exact ⟨a, b, c⟩
    clear HH HT1 HFL ht
    go_wp2_with fail
    go_ret
    refine ⟨x1, v7, out1.map Ho.om ++ l2, by rw [List.map_append, HL2.out, List.map_map]; rfl, rfl, ?_⟩
    rw [List.length_append, List.length_map]
    have hX := (ST7.out.less (List.Sublist.cons _ (List.Sublist.refl _)) (fun r h => h)).addNils (k := (out1.map Ho.om).map Om.row) (by
      intro r hr
      rw [List.map_map] at hr
      obtain ⟨a, -, rfl⟩ := List.mem_map.1 hr
      exact ⟨rfl, Nat.le_refl _, Nat.zero_le _⟩)
    rw [show oms (out1.map Ho.om ++ l2) = houts out1 ++ oms l2 by rw [← oms_app, ← houts_oms]; rfl, List.map_append, List.append_assoc]
    exact hX
end Go.Proofs.Ytelepohdfcjnfaa
