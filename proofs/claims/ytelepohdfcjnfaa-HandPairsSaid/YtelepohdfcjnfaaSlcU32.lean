/-
  The contract of slices.Clone at one element type.
-/
import Derived.Test.YtelepohdfcjnfaaBase
namespace Go.Proofs.Ytelepohdfcjnfaa
open Go.RowKit Go.Proofs
theorem Try.infou32 : (Try.prog.info? 101).map (fun i => (i.zero, i.size, i.bytes)) = some (some (.int .u32 0), 1, 4) := by kernel_rfl

set_option maxHeartbeats 400000 in
/-- slices.Clone: a nil slice stays nil; any other is copied into memory of the call's own. -/
theorem clone_u32 (a : Option Addr) (n cap : Nat) (cs : List Value) (w : World) (h : SlA w a n cap cs) (hl : cs.length = n * 1) (h1 : ∀ u ∈ cs, u.oneCell' = true) (hb : n * 4 ≤ 140737488355328) :
    Calls Try.prog 42 #[.slice a n cap] w fun e w' => ∃ v, e = .returned v ∧ w'.ownsRow w.heap.size 101 1 v n cs ∧ (v = .slice none 0 0 ↔ a = none) ∧ Below w.heap.size w w' := by
  have q : ∀ (w : World) (a : Option Addr) (n c n' c' : Nat), (binOp .eql 23 (.slice a n c) (.slice none n' c')).run Try.prog w = .ok (.bool a.isNone) w := fun w a n c n' c' => Lib.run_eql_slice_nil w _ _ a n c n' c' Try.underlying23
  cases a with
  | none =>
    have hcs : cs = [] := by
      cases cs with
      | nil => rfl
      | cons x r => obtain ⟨b, o, h0, _⟩ := h.cell 0 x rfl; cases h0
    subst hcs
    have hn : n = 0 := by simp at hl; omega
    clear h hl h1 hb
    go_enter Try.func42, Try.ntmps42
    go_wp2
    go_ret
    exact ⟨_, rfl, by subst hn; exact World.ownsRow_nil _ _ _ _, by simp, Below.refl _ _⟩
  | some p =>
    obtain ⟨i0, hi, hz0, hz1, hz2⟩ := info_parts Try.infou32
    have H := Lib.hid h; clear h
    have H1 := Lib.hid h1; clear h1
    have HL := Lib.hid hl; clear hl
    go_enter Try.func42, Try.ntmps42
    go_wp2_with (at_builtin; refine wpList_append_own _ rfl _ _ 23 rfl w.heap.size 101 i0 (.int .u32 0) 1 4 Try.underlying23 hi hz0 hz1 hz2 rfl (by decide) _ _ _ rfl (World.ownsRow_made w #[] 0 (Nat.le_refl _) (Nat.zero_le _) rfl) p n cap cs rfl ?qc1 ?qc2 ?qc3 ?qc4 ?qc5 ?qc6 ?_)
    case qc1 => exact HL.out
    case qc2 =>
      intro j u hj
      obtain ⟨b, o, hp, hc⟩ := H.out.cell j u hj
      cases hp
      rw [Addr.add_lit]
      exact Lib.cell?_alloc_some _ hc
    case qc3 => exact H1.out
    case qc4 => unfold maxLen; omega
    case qc5 => omega
    case qc6 => simp
    intro v' w1 hown hgrow hnil
    go_wp2
    go_ret
    refine ⟨v', rfl, by simpa using hown, ?_, ?_⟩
    · simp; exact hnil
    · exact ((Below.refl _ w).alloc (Nat.le_refl _) _).grown hgrow (by simp) (by intro k hk; simp [Value.ownBlock] at hk; omega)
end Go.Proofs.Ytelepohdfcjnfaa
