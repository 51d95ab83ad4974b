/-
  The statement HeadCodesSaid: for every input the Go function HeadCodes returns true, and each argument reads afterwards as it read before.
  Conditions: none.
-/
import Derived.Test.YtoniebocphjmgaaRows
import Derived.Test.YtoniebocphjmgaaHeadCodes
import Derived.Test.YtoniebocphjmgaaFlat
import Derived.WalkKit
import Derived.ProofKit
import Derived.OpenShut
import Derived.ShutString
import Derived.ChangeOld
import Derived.SliceStrings
import Derived.Below
namespace Go.Proofs.Ytoniebocphjmgaa.headCodes
open Go.ChangeShapes Go.WideShapes Go.ChangeAt Go.RowKit
open Go.ChangeMaps (open_string shut_string)
set_option linter.unusedVariables false

theorem own : ownKnob Try.prog.godebug = none := by kernel_rfl
theorem laidOut : laidOutB Try.prog = true := by kernel_rfl

set_option maxRecDepth 100000 in
theorem lifted (os : Os) (started : os.Started) (H : Type) (enc : TypeId × Value → H) :
    ReturnsInHanded {} Try.checked os 10 .any (Rows.headCodesSpec.pre6 enc Try.prog Try.f10 Rows.headCodesRow.domain false) (Rows.headCodesSpec.post enc Try.prog Try.f10 false true false false) := by
  refine returnsInHanded_of_change (C := Try.checked) own started (by kernel_rfl) Try.func10
    (ChangeSpec.witness6 (enc := enc) (C := Try.checked) false ⟨#[], #[.agg #[.int .u16 0, .int .u8 0, .int .u8 0, .int .u8 0, .int .u8 0, .int .u16 0, .int .u16 0, .int .u16 0, .int .u16 0], .string ⟨#[]⟩], []⟩ 8 (by kernel_rfl) (by kernel_rfl) (by kernel_rfl) (by kernel_rfl)) ?_
  intro W base args ds gs before hval0 hW hcnd _
  have hval : ∀ (j : Nat) t v, Try.f10.params[j]? = some t → args[j]? = some v → Value.okWide Try.prog W .any base t v := hval0
  have hW' := hW
  obtain ⟨p, q, hA0, hV, rfl, hfz, hnd⟩ := hW
  have hA : DataW.TrodAll enc Try.prog W 0 (fun _ => true) true Try.f10.params.toList args.toList ds p := hA0
  rw [Try.params10] at hA hval
  obtain ⟨v0, vs0, d0, ds0, p0, q0, hargs, rfl, rfl, h0, r0⟩ := trodAll_cons hA
  obtain ⟨v1, vs1, d1, ds1, p1, q1, rfl, rfl, rfl, h1, r1⟩ := trodAll_cons r0
  obtain ⟨rfl, rfl, rfl⟩ := trodAll_nil r1
  obtain rfl : args = #[v0, v1] := by cases args; simp_all
  obtain ⟨rfl, rfl⟩ := trodVars_none hV
  have k0 := h0
  have lt0 : ∀ x ∈ p0, x.block < W.heap.size := by obtain ⟨m, hm⟩ := k0; exact DataW.trod_lt m _ _ _ hm
  have k1 := h1
  have lt1 : ∀ x ∈ p1, x.block < W.heap.size := by obtain ⟨m, hm⟩ := k1; exact DataW.trod_lt m _ _ _ hm
  obtain ⟨c0, rfl⟩ : ∃ c : List Value, v0 = .agg c.toArray := by
    first
    | (obtain ⟨cs, h, _⟩ := okWide_struct Try.underlying69 (hval 0 69 v0 rfl rfl); exact ⟨cs.toList, by simpa using h⟩)
    | (obtain ⟨cs, h, _⟩ := okWide_array Try.underlying69 (hval 0 69 v0 rfl rfl); exact ⟨cs.toList, by simpa using h⟩)
  have f0 : FitsAll [.int .u16, .int .u8, .int .u8, .int .u8, .int .u8, .int .u16, .int .u16, .int .u16, .int .u16] c0 := by
    obtain ⟨m, hm⟩ := h0
    exact flat_of 8 69 _ _ (by kernel_rfl) ⟨m, _, by simpa [Value.cells] using hm⟩
  obtain ⟨_, _, hc0, ⟨x0_0, rfl, w0_0⟩, _, _, rfl, ⟨x0_1, rfl, w0_1⟩, _, _, rfl, ⟨x0_2, rfl, w0_2⟩, _, _, rfl, ⟨x0_3, rfl, w0_3⟩, _, _, rfl, ⟨x0_4, rfl, w0_4⟩, _, _, rfl, ⟨x0_5, rfl, w0_5⟩, _, _, rfl, ⟨x0_6, rfl, w0_6⟩, _, _, rfl, ⟨x0_7, rfl, w0_7⟩, _, _, rfl, ⟨x0_8, rfl, w0_8⟩, rfl⟩ := f0
  subst hc0
  obtain ⟨s1, rfl, _, _, hs1⟩ := open_string Try.underlying9 (hval 1 9 v1 rfl rfl) h1
  clear hA0 hval0
  have walk : Calls Try.prog 10 #[.agg #[.int .u16 x0_0, .int .u8 x0_1, .int .u8 x0_2, .int .u8 x0_3, .int .u8 x0_4, .int .u16 x0_5, .int .u16 x0_6, .int .u16 x0_7, .int .u16 x0_8], .string s1] W fun e w' => e = .returned (.bool true) ∧ Below W.heap.size W w' := by
    exact headCodes_walk ⟨x0_0, x0_1, x0_2, x0_3, x0_4, x0_5, x0_6, x0_7, x0_8⟩ s1 W ⟨bounds_u16 w0_0, bounds_u8 w0_1, bounds_u8 w0_2, bounds_u8 w0_3, bounds_u8 w0_4, bounds_u16 w0_5, bounds_u16 w0_6, bounds_u16 w0_7, bounds_u16 w0_8⟩ (by unfold maxLen at hs1; omega)
  refine walk.mono fun e W' ⟨he, bel⟩ => ?_
  subst he
  exact ⟨_, rfl, _, _, _, [], _, [], hW', trodAll_mk1 (shut_bool Try.underlying4 _), (trodAll_cons_mk (Below.trod laidOut (by kernel_rfl) (of_decide_eq_true (by kernel_rfl)) k0 bel lt0) (trodAll_cons_mk (Below.trod laidOut (by kernel_rfl) (of_decide_eq_true (by kernel_rfl)) k1 bel lt1) trodAll_mk0)), rfl, bel.frame _, fun h => by cases h⟩

theorem over : Rows.headCodesRow.holds Try.pinned (OpenSpec.ofChange Rows.headCodesSpec) :=
  OpenClaim.holds_of_wide 10 Try.f10 rfl rfl rfl rfl rfl rfl rfl ⟨rfl, rfl, rfl, rfl, rfl⟩ rfl rfl rfl rfl rfl (by kernel_rfl) Try.func10 (by kernel_rfl)
    (of_decide_eq_true (by kernel_rfl)) (by unfold Func.isWrapper; first | (rw [if_pos (by decide +kernel)]; kernel_rfl) | (rw [if_neg (by decide +kernel)]; exact ⟨rfl, rfl⟩))
    (fun os started H enc _ => lifted os started H enc)

theorem proved : Rows.HeadCodesSaid := over
#print axioms proved
end Go.Proofs.Ytoniebocphjmgaa.headCodes
