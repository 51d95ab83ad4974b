/-
  Package message: in, right, may.
-/
import Derived.Test.YtkclgemkeifbaaaSlf
namespace Go.Proofs.Ytkclgemkeifbaaa
open Go.RowKit Go.Proofs

/-- where a message's three lists lie -/
structure MsgP where
  a1 : Option Addr
  c1 : Nat
  a2 : Option Addr
  c2 : Nat
  a3 : Option Addr
  c3 : Nat
abbrev Msg.cells (m : Msg) (p : MsgP) : List Value := [.int .i64 m.kind, .int .i64 m.node, .int .i64 m.walk, .bool m.high, .slice p.a1 m.nodes.length p.c1, .slice p.a2 m.ids.length p.c2, .slice p.a3 m.recs.length p.c3]
abbrev Msg.val (m : Msg) (p : MsgP) : Value := .agg #[.int .i64 m.kind, .int .i64 m.node, .int .i64 m.walk, .bool m.high, .slice p.a1 m.nodes.length p.c1, .slice p.a2 m.ids.length p.c2, .slice p.a3 m.recs.length p.c3]
structure MsgAt (w : World) (m : Msg) (p : MsgP) : Prop where
  nodes : SlA w p.a1 m.nodes.length p.c1 (m.nodes.flatMap MInt.cells)
  ids : SlA w p.a2 m.ids.length p.c2 (m.ids.flatMap MId.cells)
  recs : SlA w p.a3 m.recs.length p.c3 (m.recs.flatMap MRec.cells)

theorem MsgAt.old {S : Nat → Prop} {w w' : World} {m : Msg} {p : MsgP} (h : MsgAt w m p) (f : Fr S w w') (hS : ∀ k, S k → w.heap.size ≤ k) : MsgAt w' m p := ⟨h.nodes.old f hS, h.ids.old f hS, h.recs.old f hS⟩
theorem MsgAt.keep {w w' : World} {m : Msg} {p : MsgP} (h : MsgAt w m p) (f : Gr w w') : MsgAt w' m p := h.old f (fun _ h => h.elim)

set_option maxHeartbeats 1000000 in
set_option maxRecDepth 100000 in
theorem in_any (n lo hi : Int) (w : World) : Calls Try.prog 76 #[.int .i64 n, .int .i64 lo, .int .i64 hi] w fun e w' => e = .returned (.bool (inR n lo hi)) ∧ w = w' := by
  by_cases h1 : lo ≤ n
  · by_cases h2 : n ≤ hi
    · have d1 : decide (lo ≤ n) = true := by simpa using h1
      have d2 : decide (n ≤ hi) = true := by simpa using h2
      have HD := Lib.hid (show inR n lo hi = true by simp [inR, h1, h2])
      rw [HD.out]
      go_enter Try.func76, Try.ntmps76
      go_wp2_with fail
      go_ret
      exact ⟨rfl, rfl⟩
    · have d1 : decide (lo ≤ n) = true := by simpa using h1
      have d2 : decide (n ≤ hi) = false := by simpa using h2
      have HD := Lib.hid (show inR n lo hi = false by simp [inR, h2])
      rw [HD.out]
      go_enter Try.func76, Try.ntmps76
      go_wp2_with fail
      go_ret
      exact ⟨rfl, rfl⟩
  · have d1 : decide (lo ≤ n) = false := by simpa using h1
    have HD := Lib.hid (show inR n lo hi = false by simp [inR, h1])
    rw [HD.out]
    go_enter Try.func76, Try.ntmps76
    go_wp2_with fail
    go_ret
    exact ⟨rfl, rfl⟩

set_option maxHeartbeats 1000000 in
set_option maxRecDepth 100000 in
theorem pred_int : PredF 78 MInt.val (fun n => !inR n 1 65535) := by
  refine ⟨enters_fn Try.func78 (by kernel_rfl) rfl, fun x w => ?_⟩
  generalize hb : inR x 1 65535 = b
  have HB := Lib.hid (in_any x 1 65535)
  rw [hb] at HB
  clear hb
  go_enter Try.func78, Try.ntmps78
  go_wp2_with fail
  refine (HB.out _).mono ?_
  rintro e w' ⟨rfl, rfl⟩
  go_wp2_with fail
  go_ret
  exact ⟨rfl, Fr.refl _ _⟩

set_option maxHeartbeats 1000000 in
set_option maxRecDepth 100000 in
theorem pred_id : PredF 80 MId.val (fun x => !decide (x.key.size ≤ 64)) := by
  refine ⟨enters_fn Try.func80 (by kernel_rfl) rfl, fun x w => ?_⟩
  have HB : (!decide (x.key.size ≤ 64)) = decide ((64 : Int) < (x.key.size : Int)) := by by_cases h : x.key.size ≤ 64 <;> simp [h] <;> omega
  simp only [HB]
  clear HB
  go_enter Try.func80, Try.ntmps80
  go_wp2_with fail
  go_ret
  exact ⟨rfl, (Fr.refl _ _).alloc _⟩

set_option maxHeartbeats 2000000 in
set_option maxRecDepth 100000 in
theorem right_any (x : MRec) (w : World) : Calls Try.prog 83 #[x.val] w fun e w' => e = .returned (.bool x.right) ∧ Gr w w' := by
  have HR : Hid (x.right = (decide (x.key.size ≤ 64) && decide (x.data.size ≤ 64) && inR x.origin 1 65535 && inR x.age 0 65535)) := Lib.hid rfl
  have HO := Lib.hid (in_any x.origin 1 65535)
  have HA := Lib.hid (in_any x.age 0 65535)
  generalize inR x.origin 1 65535 = b1 at *
  generalize inR x.age 0 65535 = b2 at *
  generalize x.right = r at *
  by_cases h1 : x.key.size ≤ 64
  · by_cases h2 : x.data.size ≤ 64
    · cases b1
      · obtain rfl : r = false := by rw [HR.out]; simp
        clear HR
        go_enter Try.func83, Try.ntmps83
        go_wp2_with fail
        refine (HO.out _).mono ?_
        rintro e w' ⟨rfl, rfl⟩
        go_wp2_with fail
        go_ret
        exact ⟨rfl, (Fr.refl _ _).alloc _⟩
      · obtain rfl : r = b2 := by rw [HR.out]; simp [h1, h2]
        clear HR
        go_enter Try.func83, Try.ntmps83
        go_wp2_with fail
        refine (HO.out _).mono ?_
        rintro e w' ⟨rfl, rfl⟩
        go_wp2_with fail
        refine (HA.out _).mono ?_
        rintro e w' ⟨rfl, rfl⟩
        go_wp2_with fail
        go_ret
        exact ⟨rfl, (Fr.refl _ _).alloc _⟩
    · obtain rfl : r = false := by rw [HR.out]; simp [h2]
      clear HR
      go_enter Try.func83, Try.ntmps83
      go_wp2_with fail
      go_ret
      exact ⟨rfl, (Fr.refl _ _).alloc _⟩
  · obtain rfl : r = false := by rw [HR.out]; simp [h1]
    clear HR
    go_enter Try.func83, Try.ntmps83
    go_wp2_with fail
    go_ret
    exact ⟨rfl, (Fr.refl _ _).alloc _⟩

set_option maxHeartbeats 1000000 in
set_option maxRecDepth 100000 in
theorem pred_rec : PredF 82 MRec.val (fun x => !x.right) := by
  refine ⟨enters_fn Try.func82 (by kernel_rfl) rfl, fun x w => ?_⟩
  have HB := Lib.hid (right_any x)
  generalize x.right = b at *
  go_enter Try.func82, Try.ntmps82
  go_wp2_with fail
  refine (HB.out _).mono ?_
  rintro e w' ⟨rfl, f⟩
  have F := Lib.hid (((Fr.refl (fun _ => False) w).alloc _).trans f (fun _ h => .inl h)); clear f
  go_wp2_with fail
  go_ret
  exact ⟨rfl, F.out⟩

theorem any_not {α : Type} (p : α → Bool) (l : List α) : (l.any fun x => !p x) = !l.all p := by
  induction l with
  | nil => rfl
  | cons x r ih => simp [ih]

set_option maxHeartbeats 4000000 in
set_option maxRecDepth 100000 in
theorem may_any (m : Msg) (p : MsgP) (w : World) (h : MsgAt w m p) : Calls Try.prog 46 #[m.val p] w fun e w' => e = .returned (.bool m.may) ∧ Gr w w' := by
  have HR : Hid (m.may = (inR m.kind 1 14 && inR m.node 0 65535 && inR m.walk 0 15 && decide (m.nodes.length ≤ 64) && decide (m.ids.length ≤ 64) && decide (m.recs.length ≤ 16) &&
    !(m.nodes.any fun n => !inR n 1 65535) && !(m.ids.any fun x => !decide (x.key.size ≤ 64)) && !(m.recs.any fun x => !x.right))) := Lib.hid (by
      rw [any_not, any_not, any_not]; simp only [Bool.not_not]; rfl)
  have C1 := Lib.hid (in_any m.kind 1 14)
  have C2 := Lib.hid (in_any m.node 0 65535)
  have C3 := Lib.hid (in_any m.walk 0 15)
  have C4 := Lib.hid (fun w' (f : Gr w w') => containsFn_int 78 _ pred_int p.a1 p.c1 m.nodes w' (h.keep f).nodes)
  have C5 := Lib.hid (fun w' (f : Gr w w') => containsFn_id 80 _ pred_id p.a2 p.c2 m.ids w' (h.keep f).ids)
  have C6 := Lib.hid (fun w' (f : Gr w w') => containsFn_rec 82 _ pred_rec p.a3 p.c3 m.recs w' (h.keep f).recs)
  generalize inR m.kind 1 14 = b1 at *
  generalize inR m.node 0 65535 = b2 at *
  generalize inR m.walk 0 15 = b3 at *
  generalize (m.nodes.any fun n => !inR n 1 65535) = b4 at *
  generalize (m.ids.any fun x => !decide (x.key.size ≤ 64)) = b5 at *
  generalize (m.recs.any fun x => !x.right) = b6 at *
  generalize m.may = r at *
  clear h
  go_enter Try.func46, Try.ntmps46
  go_wp2_with fail
  refine (C1.out _).mono ?_
  rintro e w' ⟨rfl, rfl⟩
  cases b1
  · obtain rfl : r = false := by rw [HR.out]; simp
    clear HR
    go_wp2_with fail
    go_ret
    exact ⟨rfl, (Fr.refl _ _).alloc _⟩
  go_wp2_with fail
  refine (C2.out _).mono ?_
  rintro e w' ⟨rfl, rfl⟩
  cases b2
  · obtain rfl : r = false := by rw [HR.out]; simp
    clear HR
    go_wp2_with fail
    go_ret
    exact ⟨rfl, (Fr.refl _ _).alloc _⟩
  go_wp2_with fail
  refine (C3.out _).mono ?_
  rintro e w' ⟨rfl, rfl⟩
  cases b3
  · obtain rfl : r = false := by rw [HR.out]; simp
    clear HR
    go_wp2_with fail
    go_ret
    exact ⟨rfl, (Fr.refl _ _).alloc _⟩
  by_cases l1 : m.nodes.length ≤ 64
  case neg =>
    obtain rfl : r = false := by rw [HR.out]; simp [l1]
    clear HR
    go_wp2_with fail
    go_ret
    exact ⟨rfl, (Fr.refl _ _).alloc _⟩
  by_cases l2 : m.ids.length ≤ 64
  case neg =>
    obtain rfl : r = false := by rw [HR.out]; simp [l2]
    clear HR
    go_wp2_with fail
    go_ret
    exact ⟨rfl, (Fr.refl _ _).alloc _⟩
  by_cases l3 : m.recs.length ≤ 16
  case neg =>
    obtain rfl : r = false := by rw [HR.out]; simp [l3]
    clear HR
    go_wp2_with fail
    go_ret
    exact ⟨rfl, (Fr.refl _ _).alloc _⟩
  go_wp2_with fail
  refine (C4.out _ ((Fr.refl _ _).alloc _)).mono ?_
  rintro e w1 ⟨rfl, f1⟩
  have BX := Lib.hid (Gr.bx f1)
  have F1 := Lib.hid (((Fr.refl (fun _ => False) w).alloc _).trans f1 (fun _ h => .inl h))
  have k5 := BX.out 5 _ rfl
  clear f1
  cases b4
  case true =>
    obtain rfl : r = false := by rw [HR.out]; simp
    clear HR
    go_wp2_with fail
    go_ret
    exact ⟨rfl, F1.out⟩
  go_wp2_with fail
  refine (C5.out _ F1.out).mono ?_
  rintro e w2 ⟨rfl, f2⟩
  have BX2 := Lib.hid (BX.out.keep f2 (fun h => h))
  have F2 := Lib.hid (Gr.trans F1.out f2)
  clear f2 k5
  have k6 := BX2.out 6 _ rfl
  cases b5
  case true =>
    obtain rfl : r = false := by rw [HR.out]; simp
    clear HR
    go_wp2_with fail
    go_ret
    exact ⟨rfl, F2.out⟩
  go_wp2_with fail
  refine (C6.out _ F2.out).mono ?_
  rintro e w3 ⟨rfl, f3⟩
  have F3 := Lib.hid (Gr.trans F2.out f3)
  clear f3 k6
  obtain rfl : r = !b6 := by rw [HR.out]; simp [l1, l2, l3]
  clear HR
  go_wp2_with fail
  go_ret
  exact ⟨rfl, F3.out⟩
end Go.Proofs.Ytkclgemkeifbaaa
