/-
  Walks: the law's plain part, and the first lines of its laws.
-/
import Derived.Test.YtdpnkikaciigoaaWalk
import Derived.Test.YtdpnkikaciigoaaWalkNext
import Derived.Laws.StructEq
namespace Go.Proofs.Ytdpnkikaciigoaa
open Go.RowKit Go.Proofs

theorem but_keep (M : List Int) (a b : Int) : but M [a, b] = kept (keepP a b) M := by
  unfold but
  congr 1
  funext x
  unfold has keepP
  by_cases h1 : x = a <;> by_cases h2 : x = b <;> simp [h1, h2]
theorem onV_some (v : Vw) (a b num : Int) (hl : but v.act [a, b] ≠ []) (h64 : v.act.length ≤ 64) : (onV v a b [num]).1 = nextV v.act a b num ∧ (onV v a b [num]).2.1 = true := by
  unfold onV oneV nextV
  rw [if_neg hl, ← but_keep, if_neg hl]
  refine ⟨?_, rfl⟩
  simp only
  have hle : (but v.act [a, b]).length ≤ 64 := Nat.le_trans (List.length_filter_le _ _) h64
  have hpos : 0 < (but v.act [a, b]).length := List.length_pos_iff.2 hl
  congr 1
  unfold belN bel
  by_cases h2 : 2 ≤ ((but v.act [a, b]).length : Int)
  · rw [if_pos ⟨h2, by omega⟩]
  · rw [if_neg (fun h => h2 h.1)]
    have h1 : ((but v.act [a, b]).length : Int) = 1 := by omega
    rw [h1]
    simp
theorem onV_none (v : Vw) (a b num : Int) (hl : but v.act [a, b] = []) : (onV v a b [num]).1 = 0 ∧ (onV v a b [num]).2.1 = false ∧ nextV v.act a b num = 0 := by
  unfold onV oneV nextV
  rw [if_pos hl, ← but_keep, if_pos hl]
  exact ⟨rfl, rfl, rfl⟩
theorem next_pos (v : Vw) (a b num : Int) (hg : v.Good) (hl : but v.act [a, b] ≠ []) : 0 < nextV v.act a b num := by
  unfold nextV
  rw [← but_keep, if_neg hl]
  have hpos : 0 < (but v.act [a, b]).length := List.length_pos_iff.2 hl
  have h1 := Int.emod_lt_of_pos num (show (0 : Int) < (but v.act [a, b]).length by omega)
  have h2 := Int.emod_nonneg num (show ((but v.act [a, b]).length : Int) ≠ 0 by omega)
  rw [List.getD_eq_getElem?_getD, List.getElem?_eq_getElem (by omega)]
  simp only [Option.getD_some]
  have hm := List.getElem_mem (l := but v.act [a, b]) (n := (num % ((but v.act [a, b]).length : Int)).toNat) (by omega)
  have := hg.act.node _ (List.mem_filter.1 hm).1
  omega
/-- what the law wants of a joining walk's step, of a sample's -/
def wantJ (v : Vw) (left know nx : Int) : Bool × Int × Bool := if left < 1 ∨ (v.act.length : Int) < 2 ∨ nx ≤ 0 then (true, 0, false) else (false, nx, left == know)
def wantM (left nx : Int) : Bool × Int × Bool := if left < 1 ∨ nx ≤ 0 then (true, 0, false) else (false, nx, false)
theorem join_law (v : Vw) (a b left know num : Int) (hg : v.Good) :
    ((wJoin v a b left know [num]).1, (wJoin v a b left know [num]).2.1, (wJoin v a b left know [num]).2.2.1) = wantJ v left know (nextV v.act a b num) := by
  unfold wJoin wantJ
  by_cases h1 : left < 1 ∨ (v.act.length : Int) < 2
  · rw [if_pos h1, if_pos (h1.elim .inl (fun h => .inr (.inl h)))]
  · rw [if_neg h1]
    have h64 := hg.act.len
    by_cases hl : but v.act [a, b] = []
    · obtain ⟨e1, e2, e3⟩ := onV_none v a b num hl
      rw [e3, if_pos (.inr (.inr (Int.le_refl _)))]
      simp only [e1, e2]
      rfl
    · obtain ⟨e1, e2⟩ := onV_some v a b num hl h64
      have hp := next_pos v a b num hg hl
      rw [if_neg (by rintro (h | h | h)
                     · exact h1 (.inl h)
                     · exact h1 (.inr h)
                     · omega)]
      simp only [e1, e2]
      simp
theorem mix_law (v : Vw) (a b left num : Int) (hg : v.Good) :
    ((wMix v a b left [num]).1, (wMix v a b left [num]).2.1, (wMix v a b left [num]).2.2.1) = wantM left (nextV v.act a b num) := by
  unfold wMix wantM
  by_cases h1 : left < 1
  · rw [if_pos h1, if_pos (.inl h1)]
  · rw [if_neg h1]
    have h64 := hg.act.len
    by_cases hl : but v.act [a, b] = []
    · obtain ⟨e1, e2, e3⟩ := onV_none v a b num hl
      rw [e3, if_pos (.inr (Int.le_refl _))]
      simp only [e1, e2]
      rfl
    · obtain ⟨e1, e2⟩ := onV_some v a b num hl h64
      have hp := next_pos v a b num hg hl
      rw [if_neg (by rintro (h | h)
                     · exact h1 h
                     · omega)]
      simp only [e1, e2]
      rfl

set_option maxHeartbeats 1000000 in
theorem eql_step (w : World) (d : Nat) (e : Bool) (n : Int) (k : Bool) : (Op.equalIn (d + 2) 36 (.agg #[.bool e, .int .i64 n, .bool k]) (.agg #[.bool e, .int .i64 n, .bool k])).run Try.prog w = .ok true w := by
  have hb : Try.prog.underlying 4 = some .bool := Try.underlying4
  have hi : Try.prog.underlying 3 = some (.int .i64) := Try.underlying3
  rw [run_equalIn_struct w (d + 1) 36 _ _ (by kernel_rfl) (by kernel_rfl)]
  have hf : (Try.prog.fieldsOf 36).toList = [{ name := "End", type := 4, offset := 0, embedded := false, tag := "", pkgPath := "", byteOffset := 0 }, { name := "Next", type := 3, offset := 1, embedded := false, tag := "", pkgPath := "", byteOffset := 8 }, { name := "Know", type := 4, offset := 2, embedded := false, tag := "", pkgPath := "", byteOffset := 16 }] := by kernel_rfl
  obtain ⟨ib, hib, _⟩ := Option.map_eq_some_iff.1 (show (Try.prog.info? 4).map (·.size) = some 1 by kernel_rfl)
  obtain ⟨ii, hii, _⟩ := Option.map_eq_some_iff.1 (show (Try.prog.info? 3).map (·.size) = some 1 by kernel_rfl)
  have cb : Try.prog.cellsOf 4 = 1 := by kernel_rfl
  have ci : Try.prog.cellsOf 3 = 1 := by kernel_rfl
  have q0 : ∀ w, (part 4 #[.bool e, .int .i64 n, .bool k] 0).run Try.prog w = .ok (.bool e) w := fun w => by simp [part, run_sizeOf, hib, cb, go_sem]
  have q1 : ∀ w, (part 3 #[.bool e, .int .i64 n, .bool k] 1).run Try.prog w = .ok (.int .i64 n) w := fun w => by simp [part, run_sizeOf, hii, ci, go_sem]
  have q2 : ∀ w, (part 4 #[.bool e, .int .i64 n, .bool k] 2).run Try.prog w = .ok (.bool k) w := fun w => by simp [part, run_sizeOf, hib, cb, go_sem]
  rw [hf]
  simp [Op.eqFields, q0, q1, q2, Sem.run_bind, Result.andThen_ok, run_equalIn_bool' _ d _ _ _ hb, run_equalIn_int _ d _ _ _ _ _ hi]
end Go.Proofs.Ytdpnkikaciigoaa
