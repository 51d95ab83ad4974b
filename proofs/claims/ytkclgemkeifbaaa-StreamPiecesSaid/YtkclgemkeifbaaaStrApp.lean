/-
  append of one row of messages onto another, none of them or some.
-/
import Derived.Test.YtkclgemkeifbaaaStrFrom
import Derived.Maps.AppendAt
namespace Go.Proofs.Ytkclgemkeifbaaa
open Go.RowKit Go.Proofs

/-- nothing is appended: the row is as it was -/
theorem run_app_none {B : Nat} {w : World} {L : List (Msg × MsgP)} {v : Value} (h : MsgsOwn B w L v) (ty : TypeId) (c : Nat) {i : TypeInfo} (hi : Try.prog.info? 30 = some i) :
    (Builtin.append_ #[55, 55] ty #[v, .slice none 0 c]).run Try.prog w = .ok v w := by
  obtain ⟨_, h1 | h1⟩ := h.row
  · obtain ⟨rfl, _⟩ := h1
    simp [Builtin.append_, run_underlying Try.underlying55, sizeOf, typeInfo, hi, Builtin.lenOf, Builtin.firstCells]
  · obtain ⟨g, cap, cur, rfl, _, _, hn, _⟩ := h1
    simp [Builtin.append_, run_underlying Try.underlying55, sizeOf, typeInfo, hi, Builtin.lenOf, Builtin.firstCells, hn, storeCells]

theorem one_cells (m : Msg) (p : MsgP) : ∀ u ∈ m.cells p, u.oneCell' = true := by
  intro u hu
  simp at hu
  rcases hu with rfl | rfl | rfl | rfl | rfl | rfl | rfl <;> rfl

/-- where the row lies behind an append -/
theorem run_app {B B' : Nat} {w : World} {L L' : List (Msg × MsgP)} {v : Value} {a : Option Addr} {cap : Nat} (h : MsgsOwn B w L v) (h' : MsgsOwn B' w L' (.slice a L'.length cap)) (hB : B ≤ w.heap.size) (hl : L.length + L'.length ≤ 1000000) (ty : TypeId) :
    ∃ v' w', (Builtin.append_ #[55, 55] ty #[v, .slice a L'.length cap]).run Try.prog w = .ok v' w' ∧ w'.ownsRow B 30 7 v' (L ++ L').length ((L ++ L').flatMap mpCells) ∧ w.grownBy w' v.ownBlock ∧ (v'.ownBlock = v.ownBlock ∨ v'.ownBlock = some w.heap.size) := by
  obtain ⟨i, hi, hi2, hi3, hi4⟩ := info_parts Try.infoMsg
  have hcl : ∀ l : List (Msg × MsgP), (l.flatMap mpCells).length = l.length * 7 := fun l => by
    induction l with
    | nil => rfl
    | cons x l ih => rw [List.flatMap_cons, List.length_append, ih, List.length_cons]; simp; omega
  cases a with
  | none =>
    have e : L' = [] := by
      cases L' with
      | nil => rfl
      | cons x r =>
        obtain ⟨b, o, e, _⟩ := h'.get 0 (by simp)
        cases e
    subst e
    refine ⟨v, w, run_app_none h ty cap hi, by simpa using h.row, World.grownBy.refl w _, .inl rfl⟩
  | some ad =>
    have hnews : ∀ j u, (L'.flatMap mpCells)[j]? = some u → w.cell? (ad.add j) = some u := by
      obtain ⟨a', cap', e, hs, _⟩ := SlA.of_own h'.row
      cases e
      intro j u hj
      obtain ⟨b, o, e, hc⟩ := hs.cell j u hj
      cases e
      rw [Addr.add_lit]; exact hc
    obtain ⟨v', w', h1, h2, h3, _, h5⟩ := run_append_own_at (P := Try.prog) w B 55 ty 30 i msgZeroV 7 104 Try.underlying55 hi hi2 hi3 hi4 rfl (by decide) v L.length _ h.row ad L'.length cap (L'.flatMap mpCells) (hcl L') hnews
      (fun u hu => by obtain ⟨x, _, hx⟩ := List.mem_flatMap.1 hu; exact one_cells _ _ u hx) (by unfold maxLen; omega) (by omega) hB
    refine ⟨v', w', h1, ?_, h3, h5⟩
    rw [List.length_append, List.flatMap_append]
    exact h2

/-- at a plain region's list -/
theorem wpList_app {ops : Array Oper} {rest : List Oper} {o : Oper} {A : Act} {Q : Exit → Act → World → Prop} (hg : o.guard = none) (s x : Operand)
    (ho : o.op = .call { callee := .builtin .append, args := #[s, x], argTypes := #[55, 55] })
    {B B' : Nat} {w : World} {L L' : List (Msg × MsgP)} {v : Value} {a : Option Addr} {cap : Nat} (h : MsgsOwn B w L v) (h' : MsgsOwn B' w L' (.slice a L'.length cap)) (hs : A.eval s = v) (hx : A.eval x = .slice a L'.length cap)
    (hB : B ≤ w.heap.size) (hl : L.length + L'.length ≤ 1000000)
    (hk : ∀ v' w', MsgsOwn (min B B') w' (L ++ L') v' → w'.ownsRow B 30 7 v' (L ++ L').length ((L ++ L').flatMap mpCells) → w.grownBy w' v.ownBlock → (v'.ownBlock = v.ownBlock ∨ v'.ownBlock = some w.heap.size) → wpList Try.prog ops Q rest (A.put o.dst v') w') : wpList Try.prog ops Q (o :: rest) A w := by
  obtain ⟨v', w', h1, h2, h3, h4⟩ := run_app h h' hB hl o.type
  refine wpList_plain hg fun K hK => ?_
  unfold Oper.wp execOp
  simp only [ho, resolve, invoke, builtin, Sem.run_bind, Sem.run_pure, Result.andThen_ok, List.map_toArray, List.map_cons, List.map_nil, hs, hx, h1]
  refine hK _ _ (hk v' w' ⟨own_base h2 (Nat.min_le_left _ _), fun y hy => ?_⟩ h2 h3 h4)
  rcases List.mem_append.1 hy with hy | hy
  · exact ((h.own y hy).other h.row h3).base (Nat.min_le_left _ _)
  · exact ((h'.own y hy).other h.row h3).base (Nat.min_le_right _ _)
end Go.Proofs.Ytkclgemkeifbaaa
