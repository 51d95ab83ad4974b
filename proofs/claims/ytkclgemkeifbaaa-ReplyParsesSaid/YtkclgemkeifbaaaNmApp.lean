/-
  append of one row of strings onto another, none of them or some.
-/
import Derived.Test.YtkclgemkeifbaaaNmRead
import Derived.Maps.AppendAt
namespace Go.Proofs.Ytkclgemkeifbaaa
open Go.RowKit Go.Proofs

/-- nothing is appended: the row is as it was -/
theorem run_strs_none {B : Nat} {w : World} {n : Nat} {cs : List Value} {v : Value} (h : w.ownsRow B 9 1 v n cs) (ty : TypeId) (c : Nat) {i : TypeInfo} (hi : Try.prog.info? 9 = some i) :
    (Builtin.append_ #[65, 65] ty #[v, .slice none 0 c]).run Try.prog w = .ok v w := by
  obtain ⟨_, h1 | h1⟩ := h
  · obtain ⟨rfl, _⟩ := h1
    simp [Builtin.append_, run_underlying Try.underlying65, sizeOf, typeInfo, hi, Builtin.lenOf, Builtin.firstCells]
  · obtain ⟨g, cap, cur, rfl, _, _, hn, _⟩ := h1
    simp [Builtin.append_, run_underlying Try.underlying65, sizeOf, typeInfo, hi, Builtin.lenOf, Builtin.firstCells, hn, storeCells]

theorem run_strs_app {B : Nat} {w : World} {l m : List Lbl} {v : Value} {a : Option Addr} {cap : Nat} (h : w.ownsRow B 9 1 v l.length (strVs l)) (h' : SlA w a m.length cap (strVs m)) (hB : B ≤ w.heap.size) (hl : l.length + m.length ≤ 1000000) (ty : TypeId) :
    ∃ v' w', (Builtin.append_ #[65, 65] ty #[v, .slice a m.length cap]).run Try.prog w = .ok v' w' ∧ w'.ownsRow B 9 1 v' (l ++ m).length (strVs (l ++ m)) ∧ w.grownBy w' v.ownBlock := by
  obtain ⟨i, hi, hi2, hi3, hi4⟩ := info_parts Try.info21
  cases a with
  | none =>
    have e : m = [] := by
      cases m with
      | nil => rfl
      | cons x r =>
        obtain ⟨b, o, e, _⟩ := h'.at1 0 (by simp)
        cases e
    subst e
    refine ⟨v, w, run_strs_none h ty cap hi, by simpa using h, World.grownBy.refl w _⟩
  | some ad =>
    have hnews : ∀ j u, (strVs m)[j]? = some u → w.cell? (ad.add j) = some u := by
      intro j u hj
      obtain ⟨b, o, e, hc⟩ := h'.cell j u hj
      cases e
      rw [Addr.add_lit]; exact hc
    obtain ⟨v', w', h1, h2, h3, _, _⟩ := run_append_own_at (P := Try.prog) w B 65 ty 9 i (.string ByteArray.empty) 1 16 Try.underlying65 hi hi2 hi3 hi4 rfl (by decide) v l.length _ h ad m.length cap (strVs m) (by simp) hnews
      (one_map _ _ (fun _ => rfl)) (by unfold maxLen; omega) (by omega) hB
    refine ⟨v', w', h1, ?_, h3⟩
    rw [List.length_append, show strVs (l ++ m) = strVs l ++ strVs m from List.map_append]
    exact h2

/-- at a list of operations -/
theorem wpList_strs_app {ops : Array Oper} {rest : List Oper} {o : Oper} {A : Act} {Q : Exit → Act → World → Prop} (hg : o.guard = none) (s x : Operand)
    (ho : o.op = .call { callee := .builtin .append, args := #[s, x], argTypes := #[65, 65] })
    {B : Nat} {w : World} {l m : List Lbl} {v : Value} {a : Option Addr} {n cap : Nat} (h : w.ownsRow B 9 1 v l.length (strVs l)) (h' : SlA w a m.length cap (strVs m)) (hn : m.length = n) (hs : A.eval s = v) (hx : A.eval x = .slice a n cap)
    (hB : B ≤ w.heap.size) (hl : l.length + m.length ≤ 1000000)
    (hk : ∀ v' w', w'.ownsRow B 9 1 v' (l ++ m).length (strVs (l ++ m)) → w.grownBy w' v.ownBlock → wpList Try.prog ops Q rest (A.put o.dst v') w') : wpList Try.prog ops Q (o :: rest) A w := by
  subst hn
  obtain ⟨v', w', h1, h2, h3⟩ := run_strs_app h h' hB hl o.type
  refine wpList_plain hg fun K hK => ?_
  unfold Oper.wp execOp
  simp only [ho, resolve, invoke, builtin, Sem.run_bind, Sem.run_pure, Result.andThen_ok, List.map_toArray, List.map_cons, List.map_nil, hs, hx, h1]
  exact hK _ _ (hk _ _ h2 h3)
theorem sla_one {w : World} (b : Nat) (x : Lbl) (hc : w.cell? ⟨b, 0, none⟩ = some (strV x)) : SlA w (some ⟨b, 0, none⟩) 1 1 (strVs [x]) :=
  ⟨Nat.le_refl _, by decide, fun j u hj => by
    match j, hj with
    | 0, hj => cases hj; exact ⟨b, 0, rfl, by simpa using hc⟩⟩
end Go.Proofs.Ytkclgemkeifbaaa
