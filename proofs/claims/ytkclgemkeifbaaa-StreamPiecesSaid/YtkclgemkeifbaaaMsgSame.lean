/-
  Package message: Same (printed by gen_same.py).
-/
import Derived.Test.YtkclgemkeifbaaaMsgDec
import Derived.Test.YtkclgemkeifbaaaSlEq
namespace Go.Proofs.Ytkclgemkeifbaaa
open Go.RowKit Go.Proofs

theorem Gr.drewN {w w' : World} (h : Gr w w') (n : Nat) : Gr w (w'.drewN n) := Fr.drewN h n
theorem Msg.eq_parts (a b : Msg) : decide (a = b) = ((a.kind == b.kind) && (a.node == b.node) && (a.walk == b.walk) && (a.high == b.high) && decide (a.nodes = b.nodes) && decide (a.ids = b.ids) && decide (a.recs = b.recs)) := by
  cases a; cases b
  rw [Bool.eq_iff_iff]
  simp [and_assoc]

set_option maxHeartbeats 4000000 in
set_option maxRecDepth 100000 in
theorem same_any (a b : Msg) (p q : MsgP) (W : World) (ha : MsgAt W a p) (hb : MsgAt W b q) : Calls Try.prog 20 #[a.val p, b.val q] W fun e w' => e = .returned (.bool (decide (a = b))) ∧ Gr W w' := by
  have HR : Hid (decide (a = b) = ((a.kind == b.kind) && (a.node == b.node) && (a.walk == b.walk) && (a.high == b.high) && decide (a.nodes = b.nodes) && decide (a.ids = b.ids) && decide (a.recs = b.recs))) := Lib.hid (Msg.eq_parts a b)
  have E5 := Lib.hid (fun w' (f : Gr W w') => equal_int p.a1 q.a1 p.c1 q.c1 a.nodes b.nodes w' (ha.keep f).nodes (hb.keep f).nodes)
  have E6 := Lib.hid (fun w' (f : Gr W w') => equal_id p.a2 q.a2 p.c2 q.c2 a.ids b.ids w' (ha.keep f).ids (hb.keep f).ids)
  have E7 := Lib.hid (fun w' (f : Gr W w') => equal_rec p.a3 q.a3 p.c3 q.c3 a.recs b.recs w' (ha.keep f).recs (hb.keep f).recs)
  generalize decide (a.nodes = b.nodes) = b5 at *
  generalize decide (a.ids = b.ids) = b6 at *
  generalize decide (a.recs = b.recs) = b7 at *
  generalize decide (a = b) = r at *
  clear ha hb
  by_cases h1 : a.kind = b.kind
  case neg =>
    have eh1 : (a.kind == b.kind) = false := by simpa using h1
    have dh1 : decide (a.kind = b.kind) = false := by simpa using h1
    clear h1
    obtain rfl : r = false := by rw [HR.out, eh1]; rfl
    clear HR
    go_enter Try.func20, Try.ntmps20
    go_wp2_with fail
    go_ret
    exact ⟨rfl, ((Fr.refl _ _).alloc _).alloc _⟩
  have eh1 : (a.kind == b.kind) = true := by simpa using h1
  have dh1 : decide (a.kind = b.kind) = true := by simpa using h1
  clear h1
  by_cases h2 : a.node = b.node
  case neg =>
    have eh2 : (a.node == b.node) = false := by simpa using h2
    have dh2 : decide (a.node = b.node) = false := by simpa using h2
    clear h2
    obtain rfl : r = false := by rw [HR.out, eh1, eh2]; rfl
    clear HR
    go_enter Try.func20, Try.ntmps20
    go_wp2_with fail
    go_ret
    exact ⟨rfl, ((Fr.refl _ _).alloc _).alloc _⟩
  have eh2 : (a.node == b.node) = true := by simpa using h2
  have dh2 : decide (a.node = b.node) = true := by simpa using h2
  clear h2
  by_cases h3 : a.walk = b.walk
  case neg =>
    have eh3 : (a.walk == b.walk) = false := by simpa using h3
    have dh3 : decide (a.walk = b.walk) = false := by simpa using h3
    clear h3
    obtain rfl : r = false := by rw [HR.out, eh1, eh2, eh3]; rfl
    clear HR
    go_enter Try.func20, Try.ntmps20
    go_wp2_with fail
    go_ret
    exact ⟨rfl, ((Fr.refl _ _).alloc _).alloc _⟩
  have eh3 : (a.walk == b.walk) = true := by simpa using h3
  have dh3 : decide (a.walk = b.walk) = true := by simpa using h3
  clear h3
  by_cases h4 : a.high = b.high
  case neg =>
    have eh4 : (a.high == b.high) = false := by simpa using h4
    clear h4
    obtain rfl : r = false := by rw [HR.out, eh1, eh2, eh3, eh4]; rfl
    clear HR
    go_enter Try.func20, Try.ntmps20
    go_wp2_with fail
    go_ret
    exact ⟨rfl, ((Fr.refl _ _).alloc _).alloc _⟩
  have eh4 : (a.high == b.high) = true := by simpa using h4
  clear h4
  go_enter Try.func20, Try.ntmps20
  go_wp2_with fail
  refine (E5.out _ (((Fr.refl _ _).alloc _).alloc _)).mono ?_
  rintro e w1 ⟨rfl, n1, rfl⟩
  have F1 := Lib.hid (((Fr.refl (fun _ => False) W).alloc (.cells (a.arr p) 30)).alloc (.cells (b.arr q) 30))
  cases b5
  case false =>
    obtain rfl : r = false := by rw [HR.out, eh1, eh2, eh3, eh4]; rfl
    clear HR
    go_wp2_with fail
    go_ret
    exact ⟨rfl, F1.out.drewN _⟩
  go_wp2_with fail
  refine (E6.out _ (F1.out.drewN _)).mono ?_
  rintro e w2 ⟨rfl, n2, rfl⟩
  cases b6
  case false =>
    obtain rfl : r = false := by rw [HR.out, eh1, eh2, eh3, eh4]; rfl
    clear HR
    go_wp2_with fail
    go_ret
    exact ⟨rfl, F1.out.drewN _⟩
  go_wp2_with fail
  refine (E7.out _ (F1.out.drewN _)).mono ?_
  rintro e w3 ⟨rfl, n3, rfl⟩
  obtain rfl : r = b7 := by rw [HR.out, eh1, eh2, eh3, eh4]; rfl
  clear HR
  go_wp2_with fail
  go_ret
  exact ⟨rfl, F1.out.drewN _⟩
end Go.Proofs.Ytkclgemkeifbaaa
