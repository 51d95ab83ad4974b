/-
  The walk of PackPanics.
-/
import Derived.Test.YtoniebocphjmgaaPackSpeaks
import Derived.Test.YtoniebocphjmgaaRecov
namespace Go.Proofs.Ytoniebocphjmgaa
open Go.RowKit Go.Proofs

set_option maxHeartbeats 1000000 in
set_option maxRecDepth 100000 in
theorem caught1_any (r : Addr) (s x : ByteArray) (older : List PanicEntry) (w : World) (hc : w.cell? r = some (.string x)) (hz : w.frozen? r = false) :
    CallsD Try.prog 68 #[.pointer (some r)] (.panicking ({ v := .iface 9 (.string s), recovered := false } :: older)) w fun e u' w' => e = .returned (.tuple #[]) ∧ u' = .panicking ({ v := .iface 9 (.string s), recovered := true } :: older) ∧
      w' = w.setCell r (.string s) := by
  refine callsD_of_wpS Try.func68 rfl fun c₀ cs hu => ?_
  have hta : ∀ w, (Instr.typeAssert (.iface 9 (.string s)) 20 9 true).run Try.prog w = .ok (.tuple #[.string s, .bool true]) w := fun _ => by kernel_rfl
  have hin : (#[.pointer (some r)] ++ Array.replicate (Try.f68.ntmps - #[Value.pointer (some r)].size) undef : Array Value) = #[.pointer (some r), undef, undef, undef, undef, undef, undef, undef, undef, undef] := by rw [Try.ntmps68]; rfl
  rw [hin]
  apply wpS_seq
  refine wpS_region_recover (v := .iface 9 (.string s)) (cs' := { c₀ with mode := .panicking ({ v := .iface 9 (.string s), recovered := true } :: older) } :: cs) rfl (by simp [go_sem]) (by simp [recoverD, hu]) ?_ ?_
  · rintro ⟨a, w, u', h⟩
    cases h.1
  · go_wp2
    simp only [Exit.thenS]
    refine wpS_of_wp ?_
    go_wp2
    exact ⟨rfl, _, rfl, .tuple #[], by simp [results, Try.results68], rfl, rfl, rfl⟩

set_option maxHeartbeats 1000000 in
set_option maxRecDepth 100000 in
theorem caught2_any (b : Addr) (n : Nat) (s : ByteArray) (w : World) (hc : w.cell? ⟨n, 0, none⟩ = some (.string s)) :
    Calls Try.prog 69 #[.pointer (some b), .pointer (some ⟨n, 0, none⟩)] w fun e w' => e = .panicked [{ v := .iface 9 (.string s), recovered := false }] ∧ w' = w := by
  go_enter Try.func69, Try.ntmps69
  go_wp2
  exact ⟨rfl, rfl, rfl⟩

set_option maxHeartbeats 1000000 in
set_option maxRecDepth 100000 in
theorem caught3_any (b : Addr) (n : Nat) (s : ByteArray) (w : World) (hc : w.cell? ⟨n, 0, none⟩ = some (.string s)) :
    Calls Try.prog 70 #[.pointer (some b), .pointer (some ⟨n, 0, none⟩)] w fun e w' => e = .panicked [{ v := .iface 9 (.string s), recovered := false }] ∧ w' = w := by
  go_enter Try.func70, Try.ntmps70
  go_wp2
  exact ⟨rfl, rfl, rfl⟩

set_option maxHeartbeats 1000000 in
set_option maxRecDepth 100000 in
theorem caught_write (s : ByteArray) (W : World) : Calls Try.prog 24 #[.string s, .bool true] W fun e w' => e = .returned (.string s) ∧ Below W.heap.size W w' := by
  have hmf : ∀ (fn : Fn) (first cap : Array Value) (w : World), (Instr.makeFunc fn first cap).run Try.prog w = .ok (.func fn first cap) w := fun _ _ _ _ => rfl
  obtain ⟨w1, hw1, hf1, hs1, b0, b1⟩ : ∃ w1 : World, w1 = (W.alloc (.cells #[.string s] 9)).alloc (.cells #[.string ⟨#[]⟩] 9) ∧ Fr (fun _ => False) W w1 ∧ w1.heap.size = W.heap.size + 2 ∧
      w1.heap[W.heap.size]? = some (.cells #[.string s] 9) ∧ w1.heap[W.heap.size + 1]? = some (.cells #[.string ⟨#[]⟩] 9) := by
    refine ⟨_, rfl, ((Fr.refl _ W).alloc _).alloc _, by simp, ?_, ?_⟩
    · rw [heap_alloc_if, if_neg (by simp), heap_alloc_if, if_pos rfl]
    · rw [heap_alloc_if, if_pos (by simp)]
  have c0 : w1.cell? ⟨W.heap.size, 0, none⟩ = some (.string s) := by rw [World.cell?, b0]; rfl
  have c1 : w1.cell? ⟨W.heap.size + 1, 0, none⟩ = some (.string ⟨#[]⟩) := by rw [World.cell?, b1]; rfl
  have z1 : w1.frozen? ⟨W.heap.size + 1, 0, none⟩ = false := by rw [World.frozen?, b1]; rfl
  have hw := packWrite_any 69 #[.pointer (some ⟨W.heap.size, 0, none⟩)] w1 (fun _ => False) (fun x _ => x = .other s) (fun a w => enters_fn Try.func69 (by kernel_rfl) rfl _ w) (fun k h => h.elim)
    (fun w hfw _ => (caught2_any _ W.heap.size s w (hfw.cell c0 (fun h => h))).mono (by rintro e w' ⟨rfl, rfl⟩; exact ⟨Fr.refl _ _, .other s, .other s, rfl⟩))
  have HW := Lib.hid hw; clear hw
  have HB : Hid (Below W.heap.size W w1) := Fr.below (Below.refl _ W) hf1 (Nat.le_refl _) (fun k hk => hk.elim)
  clear b0 b1
  go_enter_defers Try.func24, Try.ntmps24
  go_wp2_with fail
  rw [← hw1]
  refine HW.out.mono ?_
  rintro e w2 ⟨w0, x, rfl, he, _, _, hf2⟩
  simp only [WOut.ending] at he
  subst he
  have k1 := hf2.cell c1 (by intro h; rcases h with h | h; simp only [hs1] at h; omega; exact h)
  have z2 := hf2.frozen c1 (by intro h; rcases h with h | h; simp only [hs1] at h; omega; exact h)
  rw [z1] at z2
  go_wp2_with fail
  refine leaves_cons (f := 68) (args := #[.pointer (some ⟨W.heap.size + 1, 0, none⟩)]) (by simp) (by simp [go_sem]) ?_
  refine (caught1_any _ s ⟨#[]⟩ _ _ k1 z2).mono ?_
  rintro e u' w'' ⟨rfl, rfl, rfl⟩
  have hk : (w2.setCell ⟨W.heap.size + 1, 0, none⟩ (.string s)).cell? ⟨W.heap.size + 1, 0, none⟩ = some (.string s) := World.cell?_setCell_same _ _ _ k1
  refine ⟨.string s, by simp [results, Try.results24, go_sem, hk], rfl, ?_⟩
  exact (Fr.below HB.out hf2 (by omega) (by intro k hk; rcases hk with hk | hk; omega; exact hk.elim)).setCell (p := ⟨W.heap.size + 1, 0, none⟩) (by simp) _

set_option maxHeartbeats 1000000 in
set_option maxRecDepth 100000 in
theorem caught_read (s : ByteArray) (W : World) : Calls Try.prog 24 #[.string s, .bool false] W fun e w' => e = .returned (.string s) ∧ Below W.heap.size W w' := by
  have hmf : ∀ (fn : Fn) (first cap : Array Value) (w : World), (Instr.makeFunc fn first cap).run Try.prog w = .ok (.func fn first cap) w := fun _ _ _ _ => rfl
  obtain ⟨w1, hw1, hf1, hs1, b0, b1⟩ : ∃ w1 : World, w1 = (W.alloc (.cells #[.string s] 9)).alloc (.cells #[.string ⟨#[]⟩] 9) ∧ Fr (fun _ => False) W w1 ∧ w1.heap.size = W.heap.size + 2 ∧
      w1.heap[W.heap.size]? = some (.cells #[.string s] 9) ∧ w1.heap[W.heap.size + 1]? = some (.cells #[.string ⟨#[]⟩] 9) := by
    refine ⟨_, rfl, ((Fr.refl _ W).alloc _).alloc _, by simp, ?_, ?_⟩
    · rw [heap_alloc_if, if_neg (by simp), heap_alloc_if, if_pos rfl]
    · rw [heap_alloc_if, if_pos (by simp)]
  have c0 : w1.cell? ⟨W.heap.size, 0, none⟩ = some (.string s) := by rw [World.cell?, b0]; rfl
  have c1 : w1.cell? ⟨W.heap.size + 1, 0, none⟩ = some (.string ⟨#[]⟩) := by rw [World.cell?, b1]; rfl
  have z1 : w1.frozen? ⟨W.heap.size + 1, 0, none⟩ = false := by rw [World.frozen?, b1]; rfl
  have hw := packRead_any ⟨#[120]⟩ 70 #[.pointer (some ⟨W.heap.size, 0, none⟩)] w1 (fun _ => False) (fun x _ => x = .other s) (by decide) (fun a w => enters_fn Try.func70 (by kernel_rfl) rfl _ w) (fun k h => h.elim)
    (fun w hfw _ => (caught3_any _ W.heap.size s w (hfw.cell c0 (fun h => h))).mono (by rintro e w' ⟨rfl, rfl⟩; exact ⟨Fr.refl _ _, .other s, .other s, rfl⟩))
  have HW := Lib.hid hw; clear hw
  have HB : Hid (Below W.heap.size W w1) := Fr.below (Below.refl _ W) hf1 (Nat.le_refl _) (fun k hk => hk.elim)
  clear b0 b1
  go_enter_defers Try.func24, Try.ntmps24
  go_wp2_with fail
  rw [← hw1]
  refine HW.out.mono ?_
  rintro e w2 ⟨w0, x, rfl, he, _, _, hf2⟩
  simp only [ROut.ending] at he
  subst he
  have k1 := hf2.cell c1 (by intro h; rcases h with h | h; simp only [hs1] at h; omega; exact h)
  have z2 := hf2.frozen c1 (by intro h; rcases h with h | h; simp only [hs1] at h; omega; exact h)
  rw [z1] at z2
  go_wp2_with fail
  refine leaves_cons (f := 68) (args := #[.pointer (some ⟨W.heap.size + 1, 0, none⟩)]) (by simp) (by simp [go_sem]) ?_
  refine (caught1_any _ s ⟨#[]⟩ _ _ k1 z2).mono ?_
  rintro e u' w'' ⟨rfl, rfl, rfl⟩
  have hk : (w2.setCell ⟨W.heap.size + 1, 0, none⟩ (.string s)).cell? ⟨W.heap.size + 1, 0, none⟩ = some (.string s) := World.cell?_setCell_same _ _ _ k1
  refine ⟨.string s, by simp [results, Try.results24, go_sem, hk], rfl, ?_⟩
  exact (Fr.below HB.out hf2 (by omega) (by intro k hk; rcases hk with hk | hk; omega; exact hk.elim)).setCell (p := ⟨W.heap.size + 1, 0, none⟩) (by simp) _

theorem packPanics_walk (s : ByteArray) (W : World) : Calls Try.prog 6 #[.string s] W fun e w' => e = .returned (.bool true) ∧ Below W.heap.size W w' := by
  go_enter Try.func6, Try.ntmps6
  go_wp2_with fail
  refine (speaks01 W).mono ?_
  rintro e w1 ⟨rfl, hb1⟩
  have hs1 := hb1.size
  go_wp2_with fail
  refine (caught_write s _).mono ?_
  rintro e w2 ⟨rfl, hb2⟩
  have hs2 := hb2.size
  go_wp2_with fail
  refine (caught_read s _).mono ?_
  rintro e w3 ⟨rfl, hb3⟩
  go_wp2_with fail
  go_ret
  exact ⟨rfl, (hb1.trans (hb2.mono hs1)).trans (hb3.mono (by omega))⟩
end Go.Proofs.Ytoniebocphjmgaa
