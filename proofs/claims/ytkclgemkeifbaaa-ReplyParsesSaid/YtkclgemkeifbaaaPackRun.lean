/-
  pack.run: a call, and with which error it was refused.
-/
import Derived.Test.YtkclgemkeifbaaaPackR
import Derived.Defers
import Derived.Recover
namespace Go.Proofs.Ytkclgemkeifbaaa
open Go.RowKit Go.Proofs

set_option maxHeartbeats 1000000 in
set_option maxRecDepth 100000 in
theorem catch_ret (r : Addr) (w : World) :
    CallsD Try.prog 117 #[.pointer (some r)] .returning w fun e u' w' => e = .returned (.tuple #[]) ∧ u' = .returning ∧ w' = w := by
  refine callsD_of_wpS Try.func117 rfl fun c₀ cs hu => ?_
  apply wpS_seq
  apply wpS_region
  simp [wpOpsS, go_sem, recoverD, hu, Try.ntmps117, Exit.thenS]
  refine wpS_of_wp ?_
  go_wp2
  cases c₀
  simp_all [bodyPostS, results, Try.results117]

set_option maxHeartbeats 1000000 in
set_option maxRecDepth 100000 in
theorem catch_ref (r : Addr) (c x : Int) (w : World) (hc : w.cell? r = some (.int .i64 x)) (hz : w.frozen? r = false) :
    CallsD Try.prog 117 #[.pointer (some r)] (.panicking [{ v := refused c, recovered := false }]) w fun e u' w' => e = .returned (.tuple #[]) ∧ u' = .panicking [{ v := refused c, recovered := true }] ∧
      w' = (w.alloc (.cells #[.int .i64 c] 202)).setCell r (.int .i64 c) := by
  refine callsD_of_wpS Try.func117 rfl fun c₀ cs hu => ?_
  apply wpS_seq
  apply wpS_region
  simp [wpOpsS, go_sem, recoverD, hu, Try.ntmps117, Exit.thenS]
  refine wpS_of_wp ?_
  have hta : ∀ w, (Instr.typeAssert (.iface 202 (.agg #[.int .i64 c])) 20 202 true).run Try.prog w = .ok (.tuple #[.agg #[.int .i64 c], .bool true]) w := fun _ => by kernel_rfl
  have hz' : (w.alloc (.cells #[.int .i64 c] 202)).frozen? r = false := by
    rw [← hz]; exact World.frozen?_of_block (w := w) (Below.heap_alloc _ _ _ (lt_of_cell hc))
  have hc' : (w.alloc (.cells #[.int .i64 c] 202)).cell? r = some (.int .i64 x) := by
    rw [← hc]; exact World.cell?_of_block (w := w) (Below.heap_alloc _ _ _ (lt_of_cell hc))
  unfold refused
  go_wp2
  cases c₀
  simp_all [bodyPostS, results, Try.results117]

set_option maxHeartbeats 1000000 in
set_option maxRecDepth 100000 in
theorem catch_other (r : Addr) (s : ByteArray) (w : World) :
    CallsD Try.prog 117 #[.pointer (some r)] (.panicking [{ v := .iface 9 (.string s), recovered := false }]) w fun e u' w' => e = .panicked [{ v := .iface 9 (.string s), recovered := false }] ∧ u' = .panicking [{ v := .iface 9 (.string s), recovered := true }] ∧ w' = w := by
  refine callsD_of_wpS Try.func117 rfl fun c₀ cs hu => ?_
  apply wpS_seq
  apply wpS_region
  simp [wpOpsS, go_sem, recoverD, hu, Try.ntmps117, Exit.thenS]
  refine wpS_of_wp ?_
  have hta : ∀ w, (Instr.typeAssert (.iface 9 (.string s)) 20 202 true).run Try.prog w = .ok (.tuple #[.agg #[.int .i64 0], .bool false]) w := fun _ => by kernel_rfl
  go_wp2
  cases c₀
  simp_all [bodyPostS]

/-- how run ends, by the ending of the call -/
inductive RunEnd (r : Addr) (w0 : World) : Ending → Ending → World → Prop where
  | ret : RunEnd r w0 (.returned (.tuple #[])) (.returned (.int .i64 0)) (w0.setCell r (.int .i64 0))
  | ref (c : Int) : RunEnd r w0 (.panicked [{ v := refused c, recovered := false }]) (.returned (.int .i64 c)) ((w0.alloc (.cells #[.int .i64 c] 202)).setCell r (.int .i64 c))
  | other (s : ByteArray) : RunEnd r w0 (.panicked [{ v := .iface 9 (.string s), recovered := false }]) (.panicked [{ v := .iface 9 (.string s), recovered := false }, { v := .iface 9 (.string s), recovered := true }]) w0

set_option maxHeartbeats 1000000 in
set_option maxRecDepth 100000 in
theorem run_any (F : FuncId) (cap : Array Value) (w : World) (R : Ending → World → Prop) (hent : ∀ w, (callFunc F cap).run Try.prog w = .ok (.enter F cap) w) (hc : Calls Try.prog F cap (w.alloc (.cells #[.int .i64 0] 37)) R)
    (hR : ∀ e w', R e w' → w'.cell? ⟨w.heap.size, 0, none⟩ = some (.int .i64 0) ∧ w'.frozen? ⟨w.heap.size, 0, none⟩ = false ∧ ∃ e1 w1, RunEnd ⟨w.heap.size, 0, none⟩ w' e e1 w1) :
    Calls Try.prog 84 #[.func (.func F) #[] cap] w fun e w' => ∃ e0 w0, R e0 w0 ∧ RunEnd ⟨w.heap.size, 0, none⟩ w0 e0 e w' := by
  have hmf : ∀ (fn : Fn) (first cap : Array Value) (w : World), (Instr.makeFunc fn first cap).run Try.prog w = .ok (.func fn first cap) w := fun _ _ _ _ => rfl
  go_enter_defers Try.func84, Try.ntmps84
  go_wp2_with fail
  refine hc.mono ?_
  intro e w1 hr
  obtain ⟨k1, k2, e1, w2, hend⟩ := hR e w1 hr
  cases hend with
  | ret =>
    go_wp2_with fail
    refine leaves_cons (f := 117) (args := #[.pointer (some ⟨w.heap.size, 0, none⟩)]) (by simp) (by simp [go_sem]) ?_
    refine (catch_ret _ _).mono ?_
    rintro e u' w'' ⟨rfl, rfl, rfl⟩
    have hk : (w1.setCell ⟨w.heap.size, 0, none⟩ (.int .i64 0)).cell? ⟨w.heap.size, 0, none⟩ = some (.int .i64 0) := World.cell?_setCell_same _ _ _ k1
    refine ⟨.int .i64 0, ?_, _, _, hr, RunEnd.ret⟩
    simp [results, Try.results84, go_sem, hk]
  | ref c =>
    go_wp2_with fail
    refine leaves_cons (f := 117) (args := #[.pointer (some ⟨w.heap.size, 0, none⟩)]) (by simp) (by simp [go_sem]) ?_
    refine (catch_ref _ c 0 _ k1 k2).mono ?_
    rintro e u' w'' ⟨rfl, rfl, rfl⟩
    have hlt := lt_of_cell k1
    have k1' : (w1.alloc (.cells #[.int .i64 c] 202)).cell? ⟨w.heap.size, 0, none⟩ = some (.int .i64 0) := by
      rw [← k1]; exact World.cell?_of_block (w := w1) (Below.heap_alloc _ _ _ hlt)
    have hk : ((w1.alloc (.cells #[.int .i64 c] 202)).setCell ⟨w.heap.size, 0, none⟩ (.int .i64 c)).cell? ⟨w.heap.size, 0, none⟩ = some (.int .i64 c) := World.cell?_setCell_same _ _ _ k1'
    refine ⟨.int .i64 c, ?_, _, _, hr, RunEnd.ref c⟩
    simp [results, Try.results84, go_sem, hk]
  | other s =>
    go_wp2_with fail
    refine leaves_cons (f := 117) (args := #[.pointer (some ⟨w.heap.size, 0, none⟩)]) (by simp) (by simp [go_sem]) ?_
    refine (catch_other _ s _).mono ?_
    rintro e u' w'' ⟨rfl, rfl, rfl⟩
    exact ⟨_, _, hr, RunEnd.other s⟩
end Go.Proofs.Ytkclgemkeifbaaa
