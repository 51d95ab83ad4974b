/-
  The state of a walk: a row of its own grows.
-/
import Derived.Test.YtelepohdfcjnfaaSta
import Derived.Maps.AppendAt
namespace Go.Proofs.Ytelepohdfcjnfaa
open Go.RowKit Go.Proofs

theorem sla_add {w : World} {ad : Addr} {n c : Nat} {xs : List Value} (hs : SlA w (some ad) n c xs) : ∀ j u, xs[j]? = some u → w.cell? (ad.add j) = some u := by
  intro j u hj
  obtain ⟨b, o, e2, hc⟩ := hs.cell j u hj
  injection e2 with ha
  rw [ha]
  unfold Addr.add
  split
  · rename_i h0
    subst h0
    simpa using hc
  · exact hc
theorem own_add {w : World} {base : Nat} {e : TypeId} {sz m c : Nat} {ad : Addr} {xs : List Value} (h : w.ownsRow base e sz (.slice (some ad) m c) m xs) : ∀ j u, xs[j]? = some u → w.cell? (ad.add j) = some u := by
  obtain ⟨a, cap, hv, hs, hb, -⟩ := SlA.of_own h
  injection hv with ha h2 h3
  subst ha
  exact sla_add hs
section
variable {W : World} {O : Nat → Prop} {p : Value} {D : List Int} {B : List Blk} {L : List Ow} {R : List Rw} {w w' : World}
/-- a row of its own grows by some elements -/
theorem wpList_growT {ops : Array Oper} {rest : List Oper} {o : Oper} {A : Act} {Q : Exit → Act → World → Prop} (hgd : o.guard = none) (s x : Operand) (t e : TypeId) (sz bytes : Nat) (z0 : Value)
    (hu : Try.prog.underlying t = some (.slice e)) (hinf : (Try.prog.info? e).map (fun i => (i.zero, i.size, i.bytes)) = some (some z0, sz, bytes)) (hzs : z0.cells.size = sz) (hsz : 0 < sz) (hby : bytes ≤ 100000)
    (ho : o.op = .call { callee := .builtin .append, args := #[s, x], argTypes := #[t, t] }) (ST : Sta W O p D B L R w) (i : Nat) {v : Value} {n m c : Nat} {xs news : List Value} {ad : Addr}
    (hi : L[i]? = some ⟨e, sz, v, n, xs⟩) (hx : A.eval x = .slice (some ad) m c) (hl : news.length = m * sz) (hnews : ∀ j u, news[j]? = some u → w.cell? (ad.add j) = some u) (hs : A.eval s = v) (h1 : news.all (·.oneCell') = true) (hb : n + m ≤ 1000000)
    (h : ∀ v' w', Sta W O p D B (L.set i ⟨e, sz, v', n + m, xs ++ news⟩) R w' → wpList Try.prog ops Q rest (A.put o.dst v') w') : wpList Try.prog ops Q (o :: rest) A w := by
  obtain ⟨z, hi1, hi2, hi3, hi4⟩ := info_parts hinf
  have hown := ST.ownAt i hi
  refine wpList_append_own_at w hgd s x t ho W.heap.size e z z0 sz bytes hu hi1 hi2 hi3 hi4 hzs hsz v n xs hs hown ad m c news hx hl hnews (fun u hu => (List.all_eq_true.1 h1) u hu) (by unfold maxLen; omega) (Nat.le_trans (Nat.mul_le_mul hb hby) (by decide)) ST.size ?_
  intro v' w' hown' hgrow _ hat
  exact h v' w' (ST.grow i hi hgrow hown' hat)
/-- a row of integers grows by another one, none or some -/
theorem wpList_growI {ops : Array Oper} {rest : List Oper} {o : Oper} {A : Act} {Q : Exit → Act → World → Prop} (hgd : o.guard = none) (s x : Operand) (ho : o.op = .call { callee := .builtin .append, args := #[s, x], argTypes := #[25, 25] })
    (ST : Sta W O p D B L R w) (i : Nat) {v : Value} {n cap : Nat} {xs : List Value} {a : Option Addr} {l : List Int} (hi : L[i]? = some ⟨3, 1, v, n, xs⟩) (h' : SlA w a l.length cap (ints l)) (hs : A.eval s = v) (hx : A.eval x = .slice a l.length cap) (hb : n + l.length ≤ 1000000)
    (h : ∀ v' w', Sta W O p D B (L.set i ⟨3, 1, v', n + l.length, xs ++ ints l⟩) R w' → wpList Try.prog ops Q rest (A.put o.dst v') w') : wpList Try.prog ops Q (o :: rest) A w := by
  cases a with
  | none =>
    obtain ⟨z, hi1, hi2, hi3, hi4⟩ := info_parts Try.infoint
    have e : l = [] := by
      cases l with
      | nil => rfl
      | cons x r => obtain ⟨b, o, e, _⟩ := h'.cell 0 _ rfl; cases e
    subst e
    have hrun : (Builtin.append_ #[25, 25] o.type #[v, .slice none 0 cap]).run Try.prog w = .ok v w := by
      obtain ⟨_, h1 | h1⟩ := ST.ownAt i hi
      · obtain ⟨rfl, _⟩ := h1
        simp [Builtin.append_, run_underlying Try.underlying25, sizeOf, typeInfo, hi1, Builtin.lenOf, Builtin.firstCells]
      · obtain ⟨g, cap, cur, rfl, _, _, hn, _⟩ := h1
        simp [Builtin.append_, run_underlying Try.underlying25, sizeOf, typeInfo, hi1, Builtin.lenOf, Builtin.firstCells, hn, storeCells]
    refine wpList_plain hgd fun K hK => ?_
    unfold Oper.wp execOp
    have hx' : A.eval x = .slice none 0 cap := hx
    simp only [ho, resolve, invoke, builtin, Sem.run_bind, Sem.run_pure, Result.andThen_ok, List.map_toArray, List.map_cons, List.map_nil, hs, hx', hrun]
    refine hK _ _ (h v w ?_)
    have e2 : L.set i ⟨3, 1, v, n + ([] : List Int).length, xs ++ ints []⟩ = L := by
      have : xs ++ ints [] = xs := by simp
      rw [this]
      apply List.ext_getElem?
      intro j
      rw [List.getElem?_set]
      split
      · rename_i e
        subst e
        rw [hi]
        split
        · rfl
        · rename_i hn
          exact absurd (List.getElem?_eq_some_iff.1 hi).1 hn
      · rfl
    rw [e2]
    exact ST
  | some ad =>
    exact wpList_growT hgd s x 25 3 1 8 (.int .i64 0) Try.underlying25 Try.infoint rfl (by decide) (by decide) ho ST i hi hx (by simp) (sla_add h') hs (List.all_eq_true.2 (fun u hu => by obtain ⟨k, -, rfl⟩ := List.mem_map.1 hu; rfl)) hb h
end
end Go.Proofs.Ytelepohdfcjnfaa
