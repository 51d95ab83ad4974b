/-
  append of one row of integers onto another, none of them or some.
-/
import Derived.Test.YtdpnkikaciigoaaSomeV
import Derived.Laws.AppendOwn
namespace Go.Proofs.Ytdpnkikaciigoaa
open Go.RowKit Go.Proofs

theorem run_appI {B : Nat} {w : World} {L L' : List Int} {v : Value} {a : Option Addr} {cap : Nat} (h : w.ownsRow B 3 1 v L.length (ints L)) (h' : SlA w a L'.length cap (ints L')) (hB : B ≤ w.heap.size) (hl : L.length + L'.length ≤ 1000000) (ty : TypeId) :
    ∃ v' w', (Builtin.append_ #[22, 22] ty #[v, .slice a L'.length cap]).run Try.prog w = .ok v' w' ∧ w'.ownsRow B 3 1 v' (L ++ L').length (ints (L ++ L')) ∧ w.grownBy w' v.ownBlock := by
  obtain ⟨i, hi, hi2, hi3, hi4⟩ := info_parts Try.infoint
  cases a with
  | none =>
    have e : L' = [] := by
      cases L' with
      | nil => rfl
      | cons x r => obtain ⟨b, o, e, _⟩ := h'.cell 0 _ rfl; cases e
    subst e
    refine ⟨v, w, ?_, by simpa using h, World.grownBy.refl w _⟩
    obtain ⟨_, h1 | h1⟩ := h
    · obtain ⟨rfl, _⟩ := h1
      simp [Builtin.append_, run_underlying Try.underlying22, sizeOf, typeInfo, hi, Builtin.lenOf, Builtin.firstCells]
    · obtain ⟨g, cap, cur, rfl, _, _, hn, _⟩ := h1
      simp [Builtin.append_, run_underlying Try.underlying22, sizeOf, typeInfo, hi, Builtin.lenOf, Builtin.firstCells, hn, storeCells]
  | some ad =>
    have hnews : ∀ j u, (ints L')[j]? = some u → w.cell? (ad.add j) = some u := by
      intro j u hj
      obtain ⟨b, o, e, hc⟩ := h'.cell j u hj
      cases e
      rw [Addr.add_lit]; exact hc
    obtain ⟨v', w', h1, h2, h3, _⟩ := run_append_own (P := Try.prog) w B 22 ty 3 i (.int .i64 0) 1 8 Try.underlying22 hi hi2 hi3 hi4 rfl (by decide) v L.length _ h ad L'.length cap (ints L') (by simp) hnews
      (one_map _ L' (fun _ => rfl)) (by unfold maxLen; omega) (by omega) hB
    refine ⟨v', w', h1, ?_, h3⟩
    rw [List.length_append, show ints (L ++ L') = ints L ++ ints L' by simp]
    exact h2
theorem wpList_appI {ops : Array Oper} {rest : List Oper} {o : Oper} {A : Act} {Q : Exit → Act → World → Prop} (hg : o.guard = none) (s x : Operand)
    (ho : o.op = .call { callee := .builtin .append, args := #[s, x], argTypes := #[22, 22] })
    {B : Nat} {w : World} {L L' : List Int} {v : Value} {a : Option Addr} {cap : Nat} (h : w.ownsRow B 3 1 v L.length (ints L)) (h' : SlA w a L'.length cap (ints L')) (hs : A.eval s = v) (hx : A.eval x = .slice a L'.length cap)
    (hB : B ≤ w.heap.size) (hl : L.length + L'.length ≤ 1000000)
    (hk : ∀ v' w', w'.ownsRow B 3 1 v' (L ++ L').length (ints (L ++ L')) → w.grownBy w' v.ownBlock → wpList Try.prog ops Q rest (A.put o.dst v') w') : wpList Try.prog ops Q (o :: rest) A w := by
  obtain ⟨v', w', h1, h2, h3⟩ := run_appI h h' hB hl o.type
  refine wpList_plain hg fun K hK => ?_
  unfold Oper.wp execOp
  simp only [ho, resolve, invoke, builtin, Sem.run_bind, Sem.run_pure, Result.andThen_ok, List.map_toArray, List.map_cons, List.map_nil, hs, hx, h1]
  exact hK _ _ (hk v' w' h2 h3)
end Go.Proofs.Ytdpnkikaciigoaa
