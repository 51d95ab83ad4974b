/-
  Contracts of the package draw (New, Below, Left).
-/
import Derived.Test.YtelepohdfcjnfaaSlcU32
import Derived.Test.YtelepohdfcjnfaaDrawSpec
namespace Go.Proofs.Ytelepohdfcjnfaa
open Go.RowKit Go.Proofs

/-- the draw at block d holds the numbers l -/
def DrawAt (w : World) (d : Nat) (l : List Int) : Prop :=
  ∃ a cap, w.cell? ⟨d, 0, none⟩ = some (.slice a l.length cap) ∧ w.frozen? ⟨d, 0, none⟩ = false ∧ SlA w a l.length cap (l.map (Value.int .u32)) ∧
    (∀ x ∈ l, 0 ≤ x ∧ x < 4294967296) ∧ (∀ p, a = some p → p.block < d)

theorem left_nil (w : World) : Calls Try.prog 107 #[.pointer none] w fun e w' => e = .returned (.int .i64 0) ∧ w = w' := by
  go_enter Try.func107, Try.ntmps107
  go_wp2
  go_ret
  exact ⟨rfl, rfl⟩

theorem left_cell (d : Nat) (a : Option Addr) (len cap : Nat) (w : World) (hd : w.cell? ⟨d, 0, none⟩ = some (.slice a len cap)) :
    Calls Try.prog 107 #[.pointer (some ⟨d, 0, none⟩)] w fun e w' => e = .returned (.int .i64 len) ∧ w = w' := by
  go_enter Try.func107, Try.ntmps107
  go_wp2
  go_ret
  exact ⟨rfl, rfl⟩

theorem left_any (d : Nat) (l : List Int) (w : World) (h : DrawAt w d l) :
    Calls Try.prog 107 #[.pointer (some ⟨d, 0, none⟩)] w fun e w' => e = .returned (.int .i64 l.length) ∧ w = w' := by
  obtain ⟨a, cap, hd, _⟩ := h
  exact left_cell d a _ cap w hd

theorem below_nil (n : Int) (w : World) : Calls Try.prog 100 #[.pointer none, .int .i64 n] w fun e w' => e = .returned (.int .i64 0) ∧ w = w' := by
  by_cases h : n < 2
  · go_enter Try.func100, Try.ntmps100
    go_wp2
    go_ret
    exact ⟨rfl, rfl⟩
  by_cases h : 2147483647 < n
  · go_enter Try.func100, Try.ntmps100
    go_wp2
    go_ret
    exact ⟨rfl, rfl⟩
  go_enter Try.func100, Try.ntmps100
  go_wp2_with (go_at_call 107; refine (left_nil _).mono ?_; rintro e w' ⟨rfl, rfl⟩)
  go_ret
  exact ⟨rfl, rfl⟩

theorem below_out (d : Nat) (n : Int) (w : World) (h : n < 2 ∨ 2147483647 < n) :
    Calls Try.prog 100 #[.pointer (some ⟨d, 0, none⟩), .int .i64 n] w fun e w' => e = .returned (.int .i64 0) ∧ w = w' := by
  rcases h with h | h
  · go_enter Try.func100, Try.ntmps100
    go_wp2
    go_ret
    exact ⟨rfl, rfl⟩
  · have h' : ¬ n < 2 := by omega
    go_enter Try.func100, Try.ntmps100
    go_wp2
    go_ret
    exact ⟨rfl, rfl⟩

theorem below_empty (d : Nat) (n : Int) (w : World) (h : ¬ n < 2) (h2 : ¬ 2147483647 < n) (a : Option Addr) (cap : Nat) (hd : w.cell? ⟨d, 0, none⟩ = some (.slice a 0 cap)) :
    Calls Try.prog 100 #[.pointer (some ⟨d, 0, none⟩), .int .i64 n] w fun e w' => e = .returned (.int .i64 0) ∧ w = w' := by
  go_enter Try.func100, Try.ntmps100
  go_wp2_with (go_at_call 107; refine (left_cell _ _ _ _ _ hd).mono ?_; rintro e w' ⟨rfl, rfl⟩)
  go_ret
  exact ⟨rfl, rfl⟩

theorem below_in (d s off : Nat) (x n : Int) (len cap : Nat) (w : World) (h : ¬ n < 2) (h2 : ¬ 2147483647 < n) (h0 : 0 < len) (hlc : len ≤ cap) (hcm : cap ≤ 9223372036854775807)
   (hd : w.cell? ⟨d, 0, none⟩ = some (.slice (some ⟨s, off, none⟩) len cap)) (hf : w.frozen? ⟨d, 0, none⟩ = false) 
   (hx0 : 0 ≤ x) (hx : w.cell? ⟨s, off, none⟩ = some (.int .u32 x)) :
    Calls Try.prog 100 #[.pointer (some ⟨d, 0, none⟩), .int .i64 n] w fun e w' => e = .returned (.int .i64 (x % n)) ∧ 
       ∃ a, w' = w.setCell ⟨d, 0, none⟩ (.slice (some a) (len-1) (cap-1)) ∧ (1 < len → a = ⟨s, off+1, none⟩) ∧ a.block = s := by
  have hne : ((len : Int) == 0) = false := by simp; omega
  have hm1 : 0 ≤ x % n := Int.emod_nonneg _ (by omega)
  have hm2 : x % n < n := Int.emod_lt_of_pos _ (by omega)
  by_cases hc : cap = 1
  · subst hc
    obtain rfl : len = 1 := by omega
    go_enter Try.func100, Try.ntmps100
    go_wp2_with (go_at_call 107; refine (left_cell _ _ _ _ _ hd).mono ?_; rintro e w' ⟨rfl, rfl⟩)
    go_ret
    exact ⟨rfl, ⟨s, off, none⟩, rfl, by omega, rfl⟩
  · go_enter Try.func100, Try.ntmps100
    go_wp2_with (go_at_call 107; refine (left_cell _ _ _ _ _ hd).mono ?_; rintro e w' ⟨rfl, rfl⟩)
    go_ret
    exact ⟨rfl, ⟨s, off + 1, none⟩, rfl, fun _ => rfl, rfl⟩

theorem below_any (d : Nat) (l : List Int) (n : Int) (w : World) (h : DrawAt w d l) :
    Calls Try.prog 100 #[.pointer (some ⟨d, 0, none⟩), .int .i64 n] w fun e w' => e = .returned (.int .i64 (bel l n).1) ∧ DrawAt w' d (bel l n).2 ∧ Fr (· = d) w w' := by
  by_cases ho : n < 2 ∨ 2147483647 < n
  · rw [bel_out ho]
    refine (below_out d n w ho).mono ?_
    rintro e w' ⟨rfl, rfl⟩
    exact ⟨rfl, h, Fr.refl _ _⟩
  obtain ⟨a, cap, hd, hf, hs, hr, hb⟩ := h
  cases l with
  | nil =>
    have e : bel [] n = (0, []) := by simp [bel]
    rw [e]
    refine (below_empty d n w (by omega) (by omega) a cap hd).mono ?_
    rintro e w' ⟨rfl, rfl⟩
    exact ⟨rfl, ⟨a, cap, hd, hf, hs, hr, hb⟩, Fr.refl _ _⟩
  | cons x r =>
    have e : bel (x :: r) n = (x % n, r) := by unfold bel; rw [if_pos (by omega)]
    rw [e]
    obtain ⟨b, o, rfl, hc⟩ := hs.cell 0 (.int .u32 x) rfl
    refine (below_in d b o x n _ cap w (by omega) (by omega) (by simp) hs.le hs.max hd hf (hr x (by simp)).1 hc).mono ?_
    rintro e w' ⟨rfl, a, rfl, ha, hab⟩
    have hbd0 : b < d := hb _ rfl
    have hbd : b ≠ d := by omega
    have hfr : Fr (· = d) w (w.setCell ⟨d, 0, none⟩ (.slice (some a) ((x :: r).length - 1) (cap - 1))) := (Fr.refl (· = d) w).setCell (p := ⟨d, 0, none⟩) (.inl rfl) _
    refine ⟨rfl, ⟨some a, cap - 1, ?_, ?_, ⟨?_, ?_, ?_⟩, fun y hy => hr y (by simp [hy]), fun p hp => ?_⟩, hfr⟩
    · rw [World.cell?_setCell_same _ _ _ hd]; simp
    · simpa using hf
    · have := hs.le; simp at this ⊢; omega
    · have := hs.max; omega
    · intro j u hj
      have hj' := (List.getElem?_eq_some_iff.1 hj).1
      simp at hj'
      obtain rfl := ha (by simp; omega)
      obtain ⟨b', o', hp, hc'⟩ := hs.cell (j + 1) u (by simpa using hj)
      cases hp
      exact ⟨b, o + 1, rfl, by rw [Nat.add_assoc, Nat.add_comm 1 j]; exact hfr.cell hc' hbd⟩
    · cases hp; rw [hab]; exact hbd0


theorem new_any (a : Option Addr) (cap : Nat) (l : List Int) (w : World) (h : SlA w a l.length cap (l.map (Value.int .u32))) (hb : l.length * 4 ≤ 140737488355328) (hr : ∀ x ∈ l, 0 ≤ x ∧ x < 4294967296) :
    Calls Try.prog 10 #[.slice a l.length cap] w fun e w' => ∃ d, e = .returned (.pointer (some ⟨d, 0, none⟩)) ∧ w.heap.size ≤ d ∧ DrawAt w' d l ∧ Below w.heap.size w w' := by
  go_enter Try.func10, Try.ntmps10
  go_wp2_with (go_at_call 42; refine (clone_u32 a _ cap _ w h (by simp) (by intro u hu; obtain ⟨x, _, rfl⟩ := List.mem_map.1 hu; rfl) hb).mono ?_; rintro e w1 ⟨v, rfl, hown, _, hbl⟩; obtain ⟨a', cap', rfl, hs, hp, _⟩ := SlA.of_own hown)
  go_ret
  refine ⟨w1.heap.size, rfl, hbl.size, ⟨a', cap', ?_, ?_, hs.keep ((Fr.refl (fun _ => False) w1).alloc _) (fun _ _ => id), hr, fun p e => (hp p e).2.1⟩, hbl.alloc hbl.size _⟩
  · rw [World.cell?_alloc_at _ _ _ _ rfl]; rfl
  · exact World.frozen?_alloc_at _ _ _ _ rfl

theorem DrawAt.keep {S : Nat → Prop} {w w' : World} {d : Nat} {l : List Int} (h : DrawAt w d l) (f : Fr S w w') (hS : ∀ k, k ≤ d → ¬ S k) : DrawAt w' d l := by
  obtain ⟨a, cap, h1, h2, h3, h4, h5⟩ := h
  exact ⟨a, cap, f.cell h1 (hS d (Nat.le_refl _)), (f.frozen h1 (hS d (Nat.le_refl _))).trans h2, h3.keep f (fun p hp => hS _ (Nat.le_of_lt (h5 p hp))), h4, h5⟩
theorem DrawAt.alloc {w : World} {d : Nat} {l : List Int} (h : DrawAt w d l) (o : Obj) : DrawAt (w.alloc o) d l :=
  h.keep (S := fun _ => False) ((Fr.refl _ _).alloc _) (fun _ _ => id)
theorem DrawAt.range {w : World} {d : Nat} {l : List Int} (h : DrawAt w d l) : ∀ x ∈ l, 0 ≤ x ∧ x < 4294967296 := by
  obtain ⟨a, cap, h1, h2, h3, h4, h5⟩ := h; exact h4
theorem DrawAt.lt {w : World} {d : Nat} {l : List Int} (h : DrawAt w d l) : d < w.heap.size := by
  obtain ⟨a, cap, h1, _⟩ := h; exact lt_of_cell h1

theorem DrawAt.drewN {w : World} {d : Nat} {l : List Int} (h : DrawAt w d l) (n : Nat) : DrawAt (w.drewN n) d l := by
  obtain ⟨a, cap, h1, h2, h3, h4, h5⟩ := h
  exact ⟨a, cap, h1, h2, ⟨h3.le, h3.max, h3.cell⟩, h4, h5⟩
theorem left_n (d : Nat) (l : List Int) (n : Nat) (hn : l.length = n) (w : World) (h : DrawAt w d l) :
    Calls Try.prog 107 #[.pointer (some ⟨d, 0, none⟩)] w fun e w' => e = .returned (.int .i64 n) ∧ w = w' := by
  subst hn; exact left_any d l w h

end Go.Proofs.Ytelepohdfcjnfaa
