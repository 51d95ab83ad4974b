/-
  Equality of heads.
-/
import Derived.Test.YtkclgemkeifbaaaHeadD
import Derived.Laws.StructEq
import Derived.ChangeKeysEq
namespace Go.Proofs.Ytkclgemkeifbaaa
open Go.RowKit Go.Proofs

theorem Try.infou16 : (Try.prog.info? 61).map (fun i => i.size) = some 1 := by kernel_rfl
theorem Try.cellsu16 : Try.prog.cellsOf 61 = 1 := by kernel_rfl

set_option maxHeartbeats 1000000 in
theorem eql_u16x4 (w : World) (d : Nat) (a0 a1 a2 a3 b0 b1 b2 b3 : Int) : (Op.equalIn (d + 2) 62 (.agg #[.int .u16 a0, .int .u16 a1, .int .u16 a2, .int .u16 a3]) (.agg #[.int .u16 b0, .int .u16 b1, .int .u16 b2, .int .u16 b3])).run Try.prog w =
    .ok (a0 == b0 && (a1 == b1 && (a2 == b2 && a3 == b3))) w := by
  obtain ⟨i, hi, _⟩ := Option.map_eq_some_iff.1 Try.infou16
  rw [run_equalIn_array w (d + 1) _ _ Try.underlying62 hi, Try.cellsu16]
  have hp : ∀ (xs : Array Value) (w : World), ∀ j v, xs[j]? = some v → v.oneCell' = true → (part 61 xs (j * 1)).run Try.prog w = .ok v w := by
    intro xs w j v h1 h2
    simp [part, run_sizeOf, hi, Try.cellsu16, h1, go_sem]
  have hr : List.range 4 = [0, 1, 2, 3] := rfl
  rw [hr]
  have px0 : ∀ w, (part 61 #[.int .u16 a0, .int .u16 a1, .int .u16 a2, .int .u16 a3] 0).run Try.prog w = .ok (.int .u16 a0) w := fun w => hp _ w 0 _ rfl rfl
  have px1 : ∀ w, (part 61 #[.int .u16 a0, .int .u16 a1, .int .u16 a2, .int .u16 a3] 1).run Try.prog w = .ok (.int .u16 a1) w := fun w => hp _ w 1 _ rfl rfl
  have px2 : ∀ w, (part 61 #[.int .u16 a0, .int .u16 a1, .int .u16 a2, .int .u16 a3] 2).run Try.prog w = .ok (.int .u16 a2) w := fun w => hp _ w 2 _ rfl rfl
  have px3 : ∀ w, (part 61 #[.int .u16 a0, .int .u16 a1, .int .u16 a2, .int .u16 a3] 3).run Try.prog w = .ok (.int .u16 a3) w := fun w => hp _ w 3 _ rfl rfl
  have py0 : ∀ w, (part 61 #[.int .u16 b0, .int .u16 b1, .int .u16 b2, .int .u16 b3] 0).run Try.prog w = .ok (.int .u16 b0) w := fun w => hp _ w 0 _ rfl rfl
  have py1 : ∀ w, (part 61 #[.int .u16 b0, .int .u16 b1, .int .u16 b2, .int .u16 b3] 1).run Try.prog w = .ok (.int .u16 b1) w := fun w => hp _ w 1 _ rfl rfl
  have py2 : ∀ w, (part 61 #[.int .u16 b0, .int .u16 b1, .int .u16 b2, .int .u16 b3] 2).run Try.prog w = .ok (.int .u16 b2) w := fun w => hp _ w 2 _ rfl rfl
  have py3 : ∀ w, (part 61 #[.int .u16 b0, .int .u16 b1, .int .u16 b2, .int .u16 b3] 3).run Try.prog w = .ok (.int .u16 b3) w := fun w => hp _ w 3 _ rfl rfl
  have he : ∀ (w : World) (a b : Int), (Op.equalIn (d + 1) 61 (.int .u16 a) (.int .u16 b)).run Try.prog w = .ok (a == b) w := fun w a b => run_equalIn_int w d _ _ _ a b Try.underlying61
  simp only [Op.eqItems, Sem.run_bind, Nat.mul_one, px0, py0, Result.andThen_ok, he]
  cases h0 : (a0 == b0) <;> cases h1 : (a1 == b1) <;> cases h2 : (a2 == b2) <;> cases h3 : (a3 == b3) <;> simp [*]
end Go.Proofs.Ytkclgemkeifbaaa
