/-
  The statement StreamBadSaid: for every input the Go function StreamBad returns true, and each argument reads afterwards as it read before.
  Conditions: none.
-/
import Derived.Test.YtkclgemkeifbaaaRows
import Derived.Test.YtkclgemkeifbaaaStreamBad
import Derived.Test.YtkclgemkeifbaaaFlat
import Derived.WalkKit
import Derived.ProofKit
import Derived.OpenShut
import Derived.ShutString
import Derived.ChangeOld
import Derived.SliceStrings
import Derived.Below
namespace Go.Proofs.Ytkclgemkeifbaaa.streamBad
open Go.ChangeShapes Go.WideShapes Go.ChangeAt Go.RowKit
open Go.ChangeMaps (open_string shut_string)
set_option linter.unusedVariables false

theorem own : ownKnob Try.prog.godebug = none := by kernel_rfl
theorem laidOut : laidOutB Try.prog = true := by kernel_rfl

set_option maxRecDepth 100000 in
theorem lifted (os : Os) (started : os.Started) (H : Type) (enc : TypeId × Value → H) :
    ReturnsInHanded {} Try.checked os 6 .any (Rows.streamBadSpec.pre6 enc Try.prog Try.f6 Rows.streamBadRow.domain false) (Rows.streamBadSpec.post enc Try.prog Try.f6 false true false false) := by
  refine returnsInHanded_of_change (C := Try.checked) own started (by kernel_rfl) Try.func6
    (ChangeSpec.witness6 (enc := enc) (C := Try.checked) false ⟨#[], #[.agg #[.int .i64 0, .int .i64 0, .string ⟨#[]⟩], .int .u8 0], []⟩ 8 (by kernel_rfl) (by kernel_rfl) (by kernel_rfl) (by kernel_rfl)) ?_
  intro W base args ds gs before hval0 hW hcnd _
  have hval : ∀ (j : Nat) t v, Try.f6.params[j]? = some t → args[j]? = some v → Value.okWide Try.prog W .any base t v := hval0
  have hW' := hW
  obtain ⟨p, q, hA0, hV, rfl, hfz, hnd⟩ := hW
  have hA : DataW.TrodAll enc Try.prog W 0 (fun _ => true) true Try.f6.params.toList args.toList ds p := hA0
  rw [Try.params6] at hA hval
  obtain ⟨v0, vs0, d0, ds0, p0, q0, hargs, rfl, rfl, h0, r0⟩ := trodAll_cons hA
  obtain ⟨v1, vs1, d1, ds1, p1, q1, rfl, rfl, rfl, h1, r1⟩ := trodAll_cons r0
  obtain ⟨rfl, rfl, rfl⟩ := trodAll_nil r1
  obtain rfl : args = #[v0, v1] := by cases args; simp_all
  obtain ⟨rfl, rfl⟩ := trodVars_none hV
  have k0 := h0
  have lt0 : ∀ x ∈ p0, x.block < W.heap.size := by obtain ⟨m, hm⟩ := k0; exact DataW.trod_lt m _ _ _ hm
  have k1 := h1
  have lt1 : ∀ x ∈ p1, x.block < W.heap.size := by obtain ⟨m, hm⟩ := k1; exact DataW.trod_lt m _ _ _ hm
  obtain ⟨c0, rfl⟩ : ∃ c : List Value, v0 = .agg c.toArray := by
    first
    | (obtain ⟨cs, h, _⟩ := okWide_struct Try.underlying51 (hval 0 51 v0 rfl rfl); exact ⟨cs.toList, by simpa using h⟩)
    | (obtain ⟨cs, h, _⟩ := okWide_array Try.underlying51 (hval 0 51 v0 rfl rfl); exact ⟨cs.toList, by simpa using h⟩)
  have f0 : FitsAll [.int .i64, .int .i64, .str] c0 := by
    obtain ⟨m, hm⟩ := h0
    exact flat_of 8 51 _ _ (by kernel_rfl) ⟨m, _, by simpa [Value.cells] using hm⟩
  obtain ⟨_, _, hc0, ⟨x0_0, rfl, w0_0⟩, _, _, rfl, ⟨x0_1, rfl, w0_1⟩, _, _, rfl, ⟨x0_2, rfl, w0_2⟩, rfl⟩ := f0
  subst hc0
  obtain ⟨x1, rfl, _, _, w1⟩ := open_int Try.underlying5 (hval 1 5 v1 rfl rfl) h1
  clear hA0 hval0
  have walk : Calls Try.prog 6 #[.agg #[.int .i64 x0_0, .int .i64 x0_1, .string x0_2], .int .u8 x1] W fun e w' => e = .returned (.bool true) ∧ Below W.heap.size W w' := by
    exact streamBad_walk ⟨x0_0, x0_1, x0_2⟩ x1 W ⟨by have := bounds_i64 w0_0; omega, by have := bounds_i64 w0_1; omega, by have h := w0_2; unfold maxLen at h; simp only; omega⟩
  refine walk.mono fun e W' ⟨he, bel⟩ => ?_
  subst he
  exact ⟨_, rfl, _, _, _, [], _, [], hW', trodAll_mk1 (shut_bool Try.underlying4 _), (trodAll_cons_mk (Below.trod laidOut (by kernel_rfl) (of_decide_eq_true (by kernel_rfl)) k0 bel lt0) (trodAll_cons_mk (Below.trod laidOut (by kernel_rfl) (of_decide_eq_true (by kernel_rfl)) k1 bel lt1) trodAll_mk0)), rfl, bel.frame _, fun h => by cases h⟩

theorem over : Rows.streamBadRow.holds Try.pinned (OpenSpec.ofChange Rows.streamBadSpec) :=
  OpenClaim.holds_of_wide 6 Try.f6 rfl rfl rfl rfl rfl rfl rfl ⟨rfl, rfl, rfl, rfl, rfl⟩ rfl rfl rfl rfl rfl (by kernel_rfl) Try.func6 (by kernel_rfl)
    (of_decide_eq_true (by kernel_rfl)) (by unfold Func.isWrapper; first | (rw [if_pos (by decide +kernel)]; kernel_rfl) | (rw [if_neg (by decide +kernel)]; exact ⟨rfl, rfl⟩))
    (fun os started H enc _ => lifted os started H enc)

theorem proved : Rows.StreamBadSaid := over
#print axioms proved
end Go.Proofs.Ytkclgemkeifbaaa.streamBad
