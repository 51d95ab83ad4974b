/-
  The document's view (bellhopref09) in plain Lean: lists in the order in which nodes came.
-/
import Derived.Test.YtelepohdfcjnfaaViewLaw
import Derived.Test.YtelepohdfcjnfaaSetSort
namespace Go.Proofs.Ytelepohdfcjnfaa
open Go.RowKit Go.Proofs

def srt (l : List Int) : List Int := l.mergeSort (fun a b => decide (a ≤ b))
theorem srt_perm (l : List Int) : (srt l).Perm l := List.mergeSort_perm l _
theorem srt_up (l : List Int) : (srt l).Pairwise (· ≤ ·) := by
  have h := List.pairwise_mergeSort (le := fun a b : Int => decide (a ≤ b)) (fun a b c h1 h2 => by simp at *; omega) (fun a b => by simp; omega) l
  exact h.imp (fun h => by simpa using h)
theorem srt_len (l : List Int) : (srt l).length = l.length := (srt_perm l).length_eq
theorem srt_nil {l : List Int} (h : l ≠ []) : srt l ≠ [] := fun e => h (by have := srt_len l; rw [e] at this; exact List.eq_nil_of_length_eq_zero this.symm)
theorem up_uniq : ∀ {a b : List Int}, a.Perm b → a.Pairwise (· ≤ ·) → b.Pairwise (· ≤ ·) → a = b
  | [], b, h, _, _ => (List.nil_perm.1 h).symm
  | x :: a, b, h, ha, hb => by
    cases b with
    | nil => exact absurd (List.perm_nil.1 h) (by simp)
    | cons y b =>
      obtain ⟨h1, h2⟩ := List.pairwise_cons.1 ha
      obtain ⟨h3, h4⟩ := List.pairwise_cons.1 hb
      have hxy : x = y := by
        have m1 : x ∈ y :: b := h.mem_iff.1 (by simp)
        have m2 : y ∈ x :: a := h.mem_iff.2 (by simp)
        rcases List.mem_cons.1 m1 with e | e
        · exact e
        · rcases List.mem_cons.1 m2 with e2 | e2
          · exact e2.symm
          · have := h3 x e; have := h1 y e2; omega
      subst hxy
      rw [up_uniq ((List.perm_cons x).1 h) h2 h4]

def rDrop (l : List Int) (n : Int) : List Int := l.filter (fun x => x != n)
theorem rDrop_len (l : List Int) (n : Int) : (rDrop l n).length ≤ l.length := List.length_filter_le _ _
def rForget (u : Vw) (n : Int) : Vw := { u with pas := rDrop u.pas n }
def rJoinNo (u : Vw) (n : Int) : Bool := decide (n < 1) || decide (65535 < n) || (n == u.self) || (!has u.act n && decide (u.am ≤ (u.act.length : Int)))
def rJoin (u : Vw) (n : Int) : Vw := if rJoinNo u n = true then u else { u with pas := rDrop u.pas n, act := if has u.act n = true then u.act else u.act ++ [n] }
def rKnowNo (u : Vw) (n : Int) : Bool := decide (n < 1) || decide (65535 < n) || (n == u.self) || (u.pm == 0) || has u.act n || has u.pas n
def rKnow (u : Vw) (n : Int) (ds : List Int) : Vw × List Int :=
  if rKnowNo u n = true then (u, ds) else
    if u.pm ≤ (u.pas.length : Int) then ({ u with pas := rDrop u.pas (oneV ds (srt u.pas)).1 ++ [n] }, (oneV ds (srt u.pas)).2.2) else ({ u with pas := u.pas ++ [n] }, ds)
def rLeave (u : Vw) (n : Int) (keep : Bool) (ds : List Int) : Vw × Bool × List Int :=
  if has u.act n = true then
    (if keep = true then ((rKnow { u with act := rDrop u.act n } n ds).1, true, (rKnow { u with act := rDrop u.act n } n ds).2) else ({ u with act := rDrop u.act n }, true, ds))
  else (u, false, ds)
def rEvict (u : Vw) (ds : List Int) : Vw × Int × Bool × List Int :=
  if u.act = [] then (u, 0, false, ds) else
    ((rLeave u (oneV ds (srt u.act)).1 true (oneV ds (srt u.act)).2.2).1, (oneV ds (srt u.act)).1, true, (rLeave u (oneV ds (srt u.act)).1 true (oneV ds (srt u.act)).2.2).2.2)

/-- a view and the document's of it -/
structure Like (v u : Vw) : Prop where
  self : u.self = v.self
  act : v.act.Perm u.act
  pas : v.pas.Perm u.pas
  am : u.am = v.am
  pm : u.pm = v.pm
theorem perm_hasV {L M : List Int} (h : L.Perm M) (n : Int) : has M n = has L n := by
  by_cases hn : n ∈ L
  · rw [(has_iff _ _).2 hn, (has_iff _ _).2 (h.mem_iff.1 hn)]
  · rw [(has_no _ _).2 hn, (has_no _ _).2 (fun h' => hn (h.mem_iff.2 h'))]
theorem perm_srt {L M : List Int} (h : L.Perm M) (hl : L.Pairwise (· < ·)) : srt M = L := up_uniq ((srt_perm M).trans h.symm) (srt_up M) (hl.imp (fun h => Int.le_of_lt h))
theorem perm_dropV {L M : List Int} (h : L.Perm M) (hl : L.Pairwise (· < ·)) (n : Int) : (sDrop L n).Perm (rDrop M n) := by rw [sDrop_eq hl]; exact h.filter _
theorem perm_addV {L M : List Int} (h : L.Perm M) {m n : Int} (h0 : has L n = false) (h1 : 1 ≤ n) (h2 : n ≤ 65535) (h3 : (L.length : Int) < m) : (sAdd L m n).Perm (M ++ [n]) := by
  unfold sAdd
  rw [if_neg (by rw [h0]; decide), if_pos ⟨h1, h2, h3⟩]
  exact ((ins_perm L n).trans (h.cons n)).trans (List.perm_append_comm (l₁ := [n]) (l₂ := M))

theorem like_forget {v u : Vw} (h : Like v u) (g : v.Good) (n : Int) : Like (vForget v n) (rForget u n) := ⟨h.self, h.act, perm_dropV h.pas g.pas.up n, h.am, h.pm⟩
theorem like_joinOk {v u : Vw} (h : Like v u) (g : v.Good) (n : Int) : rJoinNo u n = !vJoinOk v n := by
  unfold rJoinNo vJoinOk sAddOk
  rw [perm_hasV h.act, h.self, h.am, h.act.symm.length_eq]
  have hn : has v.act n = true → 1 ≤ n ∧ n ≤ 65535 := fun e => g.act.node n ((has_iff _ _).1 e)
  generalize has v.act n = b at hn ⊢
  rw [Bool.eq_iff_iff]
  by_cases hs : n = v.self
  · simp [hs]
  · have : (n == v.self) = false := by simpa using hs
    rw [this]
    cases b
    · simp
    · have := hn rfl
      simp
      omega
theorem like_join {v u : Vw} (h : Like v u) (g : v.Good) (n : Int) : Like (vJoin v n) (rJoin u n) := by
  have hk := like_joinOk h g n
  unfold rJoin vJoin
  rcases Bool.eq_false_or_eq_true (vJoinOk v n) with hj | hj
  rotate_left
  · rw [hj] at hk
    rw [if_pos (show rJoinNo u n = true by rw [hk]; rfl), if_neg (show ¬ vJoinOk v n = true by rw [hj]; simp)]
    exact h
  · rw [hj] at hk
    rw [if_neg (show ¬ rJoinNo u n = true by rw [hk]; simp), if_pos hj]
    refine ⟨h.self, ?_, perm_dropV h.pas g.pas.up n, h.am, h.pm⟩
    simp only
    rw [perm_hasV h.act]
    cases hh : has v.act n
    · rw [if_neg (by simp)]
      unfold vJoinOk sAddOk at hj
      rw [hh] at hj
      simp only [Bool.false_or, Bool.and_eq_true, decide_eq_true_eq] at hj
      exact perm_addV h.act hh hj.1.1.1 hj.1.1.2 hj.1.2
    · rw [if_pos rfl]
      unfold sAdd
      rw [if_pos hh]
      exact h.act
theorem like_know {v u : Vw} (h : Like v u) (g : v.Good) (n : Int) {ds : List Int} (hr : ∀ x ∈ ds, 0 ≤ x ∧ x < 4294967296) : Like (vKnow v n ds).1 (rKnow u n ds).1 ∧ (rKnow u n ds).2 = (vKnow v n ds).2 := by
  have hs : srt u.pas = v.pas := perm_srt h.pas g.pas.up
  unfold rKnow vKnow
  rcases Bool.eq_false_or_eq_true (vNew v n) with hv | hv
  rotate_left
  · rw [if_neg (show ¬ vNew v n = true by rw [hv]; simp)]
    have : rKnowNo u n = true := by
      unfold vNew at hv
      unfold rKnowNo
      rw [perm_hasV h.act, perm_hasV h.pas, h.self, h.pm]
      generalize has v.act n = b1 at hv ⊢
      generalize has v.pas n = b2 at hv ⊢
      by_cases h1 : 1 ≤ n
      · by_cases h2 : n ≤ 65535
        · rw [decide_eq_true h1, decide_eq_true h2] at hv
          cases b1 <;> cases b2 <;> simp_all
        · rw [decide_eq_true (show 65535 < n by omega)]; simp
      · rw [decide_eq_true (show n < 1 by omega)]; simp
    rw [if_pos this]
    exact ⟨h, rfl⟩
  · rw [if_pos hv]
    unfold vNew at hv
    simp only [Bool.and_eq_true, decide_eq_true_eq, Bool.not_eq_true'] at hv
    obtain ⟨⟨⟨⟨h1, h2⟩, h3⟩, h4⟩, h5⟩ := hv
    have hno : rKnowNo u n = (v.pm == 0) := by
      unfold rKnowNo
      rw [perm_hasV h.act, perm_hasV h.pas, h.self, h.pm, h3, h4, h5, decide_eq_false (show ¬ n < 1 by omega), decide_eq_false (show ¬ 65535 < n by omega)]
      simp
    have hl := h.pas.length_eq
    have hf := g.pas.fit
    have h0 := g.pas.least
    by_cases hz : v.pm = 0
    · rw [if_pos (show rKnowNo u n = true by rw [hno]; simpa using hz)]
      have hp : v.pas = [] := List.eq_nil_of_length_eq_zero (by omega)
      have hroom : vRoom v ds = ([], ds) := by unfold vRoom; rw [hp]; simp
      rw [hroom]
      refine ⟨⟨h.self, h.act, ?_, h.am, h.pm⟩, rfl⟩
      simp only
      rw [if_neg (by unfold sAddOk; rw [hz]; simp [has])]
      exact h.pas
    · rw [if_neg (show ¬ rKnowNo u n = true by rw [hno]; simpa using hz), hs, h.pm]
      by_cases hfull : v.pm ≤ (u.pas.length : Int)
      · rw [if_pos hfull]
        have hne : v.pas ≠ [] := fun e => by rw [e] at hl; simp at hl; omega
        have hroom : vRoom v ds = (sDrop v.pas (oneV ds v.pas).1, (oneV ds v.pas).2.2) := by
          unfold vRoom
          rw [if_pos ⟨by unfold vFull; simp; omega, hne⟩]
        rw [hroom]
        obtain ⟨o, ho⟩ : ∃ o, o = (oneV ds v.pas).1 := ⟨_, rfl⟩
        have hm : o ∈ v.pas := by rw [ho]; exact (oneV_mem hr hne).1
        have hlen := sDrop_len g.pas.up ((has_iff _ _).2 hm)
        have hnn : has (sDrop v.pas o) n = false := (has_no _ _).2 (fun e => (has_no _ _).1 h5 ((sDrop_mem g.pas.up o n).1 e).1)
        rw [← ho]
        simp only
        rw [if_pos (by unfold sAddOk; rw [hnn]; simp; omega)]
        refine ⟨⟨h.self, h.act, ?_, h.am, rfl⟩, trivial⟩
        exact perm_addV (perm_dropV h.pas g.pas.up o) hnn h1 h2 (by omega)
      · rw [if_neg hfull]
        have hroom : vRoom v ds = (v.pas, ds) := by
          unfold vRoom
          rw [if_neg (fun e => by have := e.1; unfold vFull at this; simp at this; omega)]
        rw [hroom]
        simp only
        rw [if_pos (by unfold sAddOk; rw [h5]; simp; omega)]
        exact ⟨⟨h.self, h.act, perm_addV h.pas h5 h1 h2 (by omega), h.am, rfl⟩, trivial⟩
theorem like_leave {v u : Vw} (h : Like v u) (g : v.Good) (n : Int) (keep : Bool) {ds : List Int} (hr : ∀ x ∈ ds, 0 ≤ x ∧ x < 4294967296) :
    Like (vLeave v n keep ds).1 (rLeave u n keep ds).1 ∧ (rLeave u n keep ds).2 = (vLeave v n keep ds).2 := by
  have h2 : Like { v with act := sDrop v.act n } { u with act := rDrop u.act n } := ⟨h.self, perm_dropV h.act g.act.up n, h.pas, h.am, h.pm⟩
  have g2 : Vw.Good { v with act := sDrop v.act n } := ⟨g.act.drop n, g.pas⟩
  unfold rLeave vLeave
  rw [perm_hasV h.act]
  cases has v.act n
  · exact ⟨h, rfl⟩
  · cases keep
    · exact ⟨h2, rfl⟩
    · obtain ⟨a, b⟩ := like_know h2 g2 n hr
      refine ⟨a, ?_⟩
      simp only [if_true]
      rw [b]
theorem like_evict {v u : Vw} (h : Like v u) (g : v.Good) {ds : List Int} (hr : ∀ x ∈ ds, 0 ≤ x ∧ x < 4294967296) :
    Like (vEvict v ds).1 (rEvict u ds).1 ∧ (rEvict u ds).2 = (vEvict v ds).2 := by
  have hs : srt u.act = v.act := perm_srt h.act g.act.up
  unfold rEvict vEvict
  rw [hs]
  by_cases he : v.act = []
  · have : u.act = [] := by have := h.act.length_eq; rw [he] at this; exact List.eq_nil_of_length_eq_zero this.symm
    rw [if_pos he, if_pos this]
    exact ⟨h, rfl⟩
  · have : u.act ≠ [] := fun e => he (by have := h.act.length_eq; rw [e] at this; exact List.eq_nil_of_length_eq_zero this)
    rw [if_neg he, if_neg this]
    obtain ⟨a, b⟩ := like_leave h g (oneV ds v.act).1 true (oneV_range (l := v.act) hr)
    refine ⟨a, ?_⟩
    simp only
    rw [b]
end Go.Proofs.Ytelepohdfcjnfaa
