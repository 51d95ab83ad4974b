/-
  The statement QueryCutsSaid: for every input the Go function QueryCuts returns true, and each argument reads afterwards as it read before.
  Conditions: none.
-/
import Derived.Test.YtkclgemkeifbaaaRows
import Derived.Test.YtkclgemkeifbaaaQueryCuts
import Derived.Test.YtkclgemkeifbaaaFlat
import Derived.WalkKit
import Derived.ProofKit
import Derived.OpenShut
import Derived.ShutString
import Derived.ChangeOld
import Derived.SliceStrings
import Derived.Below
namespace Go.Proofs.Ytkclgemkeifbaaa.queryCuts
open Go.ChangeShapes Go.WideShapes Go.ChangeAt Go.RowKit
open Go.ChangeMaps (open_string shut_string)
set_option linter.unusedVariables false

theorem own : ownKnob Try.prog.godebug = none := by kernel_rfl
theorem laidOut : laidOutB Try.prog = true := by kernel_rfl

set_option maxRecDepth 100000 in
theorem lifted (os : Os) (started : os.Started) (H : Type) (enc : TypeId × Value → H) :
    ReturnsInHanded {} Try.checked os 9 .any (Rows.queryCutsSpec.pre6 enc Try.prog Try.f9 Rows.queryCutsRow.domain false) (Rows.queryCutsSpec.post enc Try.prog Try.f9 false true false false) := by
  refine returnsInHanded_of_change (C := Try.checked) own started (by kernel_rfl) Try.func9
    (ChangeSpec.witness6 (enc := enc) (C := Try.checked) false ⟨#[], #[.agg #[.int .u8 0, .int .u8 0, .int .u8 0, .int .u8 0, .string ⟨#[]⟩, .int .u16 0]], []⟩ 8 (by kernel_rfl) (by kernel_rfl) (by kernel_rfl) (by kernel_rfl)) ?_
  intro W base args ds gs before hval0 hW hcnd _
  have hval : ∀ (j : Nat) t v, Try.f9.params[j]? = some t → args[j]? = some v → Value.okWide Try.prog W .any base t v := hval0
  have hW' := hW
  obtain ⟨p, q, hA0, hV, rfl, hfz, hnd⟩ := hW
  have hA : DataW.TrodAll enc Try.prog W 0 (fun _ => true) true Try.f9.params.toList args.toList ds p := hA0
  rw [Try.params9] at hA hval
  obtain ⟨v0, vs0, d0, ds0, p0, q0, hargs, rfl, rfl, h0, r0⟩ := trodAll_cons hA
  obtain ⟨rfl, rfl, rfl⟩ := trodAll_nil r0
  obtain rfl : args = #[v0] := by cases args; simp_all
  obtain ⟨rfl, rfl⟩ := trodVars_none hV
  have k0 := h0
  have lt0 : ∀ x ∈ p0, x.block < W.heap.size := by obtain ⟨m, hm⟩ := k0; exact DataW.trod_lt m _ _ _ hm
  obtain ⟨c0, rfl⟩ : ∃ c : List Value, v0 = .agg c.toArray := by
    first
    | (obtain ⟨cs, h, _⟩ := okWide_struct Try.underlying85 (hval 0 85 v0 rfl rfl); exact ⟨cs.toList, by simpa using h⟩)
    | (obtain ⟨cs, h, _⟩ := okWide_array Try.underlying85 (hval 0 85 v0 rfl rfl); exact ⟨cs.toList, by simpa using h⟩)
  have f0 : FitsAll [.int .u8, .int .u8, .int .u8, .int .u8, .str, .int .u16] c0 := by
    obtain ⟨m, hm⟩ := h0
    exact flat_of 8 85 _ _ (by kernel_rfl) ⟨m, _, by simpa [Value.cells] using hm⟩
  obtain ⟨_, _, hc0, ⟨x0_0, rfl, w0_0⟩, _, _, rfl, ⟨x0_1, rfl, w0_1⟩, _, _, rfl, ⟨x0_2, rfl, w0_2⟩, _, _, rfl, ⟨x0_3, rfl, w0_3⟩, _, _, rfl, ⟨x0_4, rfl, w0_4⟩, _, _, rfl, ⟨x0_5, rfl, w0_5⟩, rfl⟩ := f0
  subst hc0
  clear hA0 hval0
  have walk : Calls Try.prog 9 #[.agg #[.int .u8 x0_0, .int .u8 x0_1, .int .u8 x0_2, .int .u8 x0_3, .string x0_4, .int .u16 x0_5]] W fun e w' => e = .returned (.bool true) ∧ Below W.heap.size W w' := by
    have h0' : (⟨x0_4.data.toList.toArray⟩ : ByteArray) = x0_4 := mk_toList x0_4
    have hw := queryCuts_walk x0_0 x0_1 x0_2 x0_3 x0_4.data.toList x0_5 W (by have := bounds_u8 w0_0; omega) (by have := bounds_u8 w0_1; omega) (by have := bounds_u8 w0_2; omega) (by have := bounds_u8 w0_3; omega) (by have := bounds_u16 w0_5; omega)
    rw [h0'] at hw
    exact hw.mono (by rintro e w' ⟨he, hf⟩; exact ⟨he, Fr.below (Below.refl _ _) hf (Nat.le_refl _) (fun _ h => h.elim)⟩)
  refine walk.mono fun e W' ⟨he, bel⟩ => ?_
  subst he
  exact ⟨_, rfl, _, _, _, [], _, [], hW', trodAll_mk1 (shut_bool Try.underlying4 _), (trodAll_cons_mk (Below.trod laidOut (by kernel_rfl) (of_decide_eq_true (by kernel_rfl)) k0 bel lt0) trodAll_mk0), rfl, bel.frame _, fun h => by cases h⟩

theorem over : Rows.queryCutsRow.holds Try.pinned (OpenSpec.ofChange Rows.queryCutsSpec) :=
  OpenClaim.holds_of_wide 9 Try.f9 rfl rfl rfl rfl rfl rfl rfl ⟨rfl, rfl, rfl, rfl, rfl⟩ rfl rfl rfl rfl rfl (by kernel_rfl) Try.func9 (by kernel_rfl)
    (of_decide_eq_true (by kernel_rfl)) (by unfold Func.isWrapper; first | (rw [if_pos (by decide +kernel)]; kernel_rfl) | (rw [if_neg (by decide +kernel)]; exact ⟨rfl, rfl⟩))
    (fun os started H enc _ => lifted os started H enc)

theorem proved : Rows.QueryCutsSaid := over
#print axioms proved
end Go.Proofs.Ytkclgemkeifbaaa.queryCuts
