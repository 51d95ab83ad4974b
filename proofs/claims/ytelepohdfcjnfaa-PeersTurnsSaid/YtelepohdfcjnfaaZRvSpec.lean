/-
  Plain words on drawing: what Below, Some and the reference's Some compute, as functions on lists; no program here.
-/
import Derived.Test.YtelepohdfcjnfaaZOwn
import Derived.Test.YtelepohdfcjnfaaZSetSpec
namespace Go.Proofs.Ytelepohdfcjnfaa
section

/-- the next number below n, and the numbers that are left -/
def bel (l : List Int) (n : Int) : Int × List Int :=
  if 2 ≤ n ∧ n ≤ 2147483647 then (match l with | [] => (0, []) | x :: r => (x % n, r)) else (0, l)

theorem bel_out {l : List Int} {n : Int} (h : n < 2 ∨ 2147483647 < n) : bel l n = (0, l) := by
  unfold bel; rw [if_neg (by omega)]

theorem bel_in {l : List Int} {n : Int} (h1 : 2 ≤ n) (h2 : n < 2147483648) {a : Nat} (ha : a < l.length) : bel (l.drop a) n = (l[a] % n, l.drop (a + 1)) := by
  rw [List.drop_eq_getElem_cons ha]
  unfold bel; rw [if_pos (by omega)]

/-- the place that is drawn of n places -/
def belN (l : List Int) (n : Nat) : Nat := (bel l n).1.toNat

theorem bel_range (l : List Int) (n : Nat) (hr : ∀ x ∈ l, 0 ≤ x ∧ x < 4294967296) (hn : 0 < n) : 0 ≤ (bel l n).1 ∧ (bel l n).1 < n := by
  unfold bel
  split
  · split
    · simp; omega
    · rename_i x r
      exact ⟨Int.emod_nonneg _ (by omega), Int.emod_lt_of_pos _ (by omega)⟩
  · simp; omega

theorem belN_eq (l : List Int) (n : Nat) (hr : ∀ x ∈ l, 0 ≤ x ∧ x < 4294967296) (hn : 0 < n) : (bel l n).1 = (belN l n : Int) ∧ belN l n < n := by
  have := bel_range l n hr hn
  unfold belN; omega

theorem bel_sub (l : List Int) (n : Int) (P : Int → Prop) (hr : ∀ x ∈ l, P x) : ∀ x ∈ (bel l n).2, P x := by
  unfold bel
  split
  · split
    · simp
    · rename_i x r; intro y hy; exact hr y (by simp at hy ⊢; exact .inr hy)
  · exact hr

/-- Some of a list: the elements drawn, and the numbers that are left -/
def someS {α : Type} : Nat → List Int → List α → Int → List α × List Int
  | 0, l, _, _ => ([], l)
  | f + 1, l, left, n =>
    if 0 < n ∧ 0 < left.length then
      match left[belN l left.length]? with
      | some x => let r := someS f (bel l left.length).2 (left.eraseIdx (belN l left.length)) (n - 1); (x :: r.1, r.2)
      | none => ([], l)
    else ([], l)

theorem someS_stop {α : Type} (f : Nat) (l : List Int) (left : List α) (n : Int) (h : ¬ (0 < n ∧ 0 < left.length)) : someS f l left n = ([], l) := by
  cases f with
  | zero => rfl
  | succ f => simp only [someS]; rw [if_neg h]

theorem someS_step {α : Type} (f : Nat) (l : List Int) (left : List α) (n : Int) (hn : 0 < n) (k : Nat) (hk : k = belN l left.length) (hl : k < left.length) :
    someS (f + 1) l left n = (left[k] :: (someS f (bel l left.length).2 (left.eraseIdx k) (n - 1)).1, (someS f (bel l left.length).2 (left.eraseIdx k) (n - 1)).2) := by
  subst hk
  rw [someS]
  rw [if_pos ⟨hn, by omega⟩, List.getElem?_eq_getElem hl]

theorem map_eraseIdx {α β : Type} (g : α → β) : ∀ (l : List α) (i : Nat), (l.map g).eraseIdx i = (l.eraseIdx i).map g
  | [], _ => rfl
  | _ :: _, 0 => rfl
  | x :: r, i + 1 => by simp [List.eraseIdx, map_eraseIdx g r i]

theorem someS_map {α β : Type} (g : α → β) : ∀ (f : Nat) (l : List Int) (left : List α) (n : Int), someS f l (left.map g) n = ((someS f l left n).1.map g, (someS f l left n).2)
  | 0, _, _, _ => rfl
  | f + 1, l, left, n => by
    simp only [someS, List.length_map]
    split
    · rw [List.getElem?_map]
      cases left[belN l left.length]? with
      | none => rfl
      | some x => simp only [Option.map_some, map_eraseIdx, someS_map g f]; rfl
    · rfl

theorem someS_length {α : Type} : ∀ (f : Nat) (l : List Int) (left : List α) (n : Int), left.length ≤ f → (∀ x ∈ l, 0 ≤ x ∧ x < 4294967296) → (someS f l left n).1.length = min n.toNat left.length
  | 0, l, left, n, h, _ => by simp [someS]; omega
  | f + 1, l, left, n, h, hr => by
    by_cases hc : 0 < n ∧ 0 < left.length
    · have hb := belN_eq l left.length hr hc.2
      rw [someS_step f l left n hc.1 _ rfl hb.2]
      have := someS_length f (bel l left.length).2 (left.eraseIdx (belN l left.length)) (n - 1) (by rw [List.length_eraseIdx]; split <;> omega) (bel_sub l _ _ hr)
      simp only [List.length_cons, this, List.length_eraseIdx]
      split <;> omega
    · rw [someS_stop _ _ _ _ hc]; simp; omega

theorem someS_sub {α : Type} : ∀ (f : Nat) (l : List Int) (left : List α) (n : Int), ∀ x ∈ (someS f l left n).1, x ∈ left
  | 0, _, _, _, x, h => by simp [someS] at h
  | f + 1, l, left, n, x, h => by
    simp only [someS] at h
    split at h
    · split at h
      · rename_i y hy
        simp only [List.mem_cons] at h
        rcases h with rfl | h
        · exact List.mem_of_getElem? hy
        · exact List.mem_of_mem_eraseIdx (someS_sub f _ _ _ x h)
      · simp at h
    · simp at h

theorem someS_nodup {α : Type} : ∀ (f : Nat) (l : List Int) (left : List α) (n : Int), left.Nodup → (someS f l left n).1.Nodup
  | 0, _, _, _, _ => by simp [someS]
  | f + 1, l, left, n, h => by
    simp only [someS]
    split
    · split
      · rename_i y hy
        refine List.nodup_cons.2 ⟨fun hm => ?_, someS_nodup f _ _ _ (h.eraseIdx _)⟩
        have hm := someS_sub f _ _ _ _ hm
        obtain ⟨hi, he⟩ := List.getElem?_eq_some_iff.1 hy
        rw [List.mem_eraseIdx_iff_getElem] at hm
        obtain ⟨j, hj, hne, hjy⟩ := hm
        have : j = belN l left.length := (List.getElem_inj (h₀ := hj) (h₁ := hi) h).1 (by rw [hjy, he])
        exact hne this
      · simp
    · simp

theorem someS_left {α : Type} : ∀ (f : Nat) (l : List Int) (left : List α) (n : Int), (∀ x ∈ l, 0 ≤ x ∧ x < 4294967296) → ∃ k, k ≤ l.length ∧ (someS f l left n).2 = l.drop k
  | 0, l, _, _, _ => ⟨0, by omega, rfl⟩
  | f + 1, l, left, n, hr => by
    have hb : ∃ k, k ≤ l.length ∧ (bel l left.length).2 = l.drop k := by
      unfold bel
      split
      · split
        · exact ⟨0, by simp, rfl⟩
        · exact ⟨1, by simp, rfl⟩
      · exact ⟨0, by omega, rfl⟩
    simp only [someS]
    split
    · split
      · obtain ⟨k, hk, e⟩ := hb
        obtain ⟨j, hj, e'⟩ := someS_left f (bel l left.length).2 (left.eraseIdx (belN l left.length)) (n - 1) (bel_sub l _ _ hr)
        refine ⟨k + j, ?_, ?_⟩
        · rw [e] at hj; simp at hj; omega
        · simp only [e']; rw [e, List.drop_drop]
      · exact ⟨0, by omega, rfl⟩
    · exact ⟨0, by omega, rfl⟩
end
section
open Go.RowKit Go.Proofs

/-- the type of a block -/
def Ty (w : World) (k : Nat) (T : TypeId) : Prop := ∃ cs fz, w.heap[k]? = some (.cells cs T fz)
theorem Ty.lt {w : World} {k : Nat} {T : TypeId} (h : Ty w k T) : k < w.heap.size := by
  obtain ⟨cs, fz, h⟩ := h
  exact (Array.getElem?_eq_some_iff.1 h).1
theorem Ty.keep {S : Nat → Prop} {w w' : World} {k : Nat} {T : TypeId} (h : Ty w k T) (f : Fr S w w') (hk : ¬ S k) : Ty w' k T := by
  have hl := h.lt
  obtain ⟨cs, fz, h⟩ := h
  exact ⟨cs, fz, by rw [f.block k hl hk]; exact h⟩
theorem Ty.uniq {w : World} {k : Nat} {T U : TypeId} (h : Ty w k T) (g : Ty w k U) : T = U := by
  obtain ⟨cs, fz, h⟩ := h
  obtain ⟨cs2, fz2, g⟩ := g
  rw [h] at g
  injection g with g
  injection g
theorem Ty.set {w : World} {k : Nat} {T : TypeId} (h : Ty w k T) (j : Nat) (v : Value) : Ty (w.setCell ⟨k, j, none⟩ v) k T := by
  obtain ⟨cs, fz, h⟩ := h
  refine ⟨cs.setIfInBounds j v, fz, ?_⟩
  unfold World.setCell
  simp only
  rw [Array.getElem?_modify, if_pos rfl, h]
  rfl
/-- the draw at block d holds the numbers l -/
def DrawAt (w : World) (d : Nat) (l : List Int) : Prop :=
  ∃ a cap, w.cell? ⟨d, 0, none⟩ = some (.slice a l.length cap) ∧ w.frozen? ⟨d, 0, none⟩ = false ∧ SlA w a l.length cap (l.map (Value.int .u32)) ∧
    (∀ x ∈ l, 0 ≤ x ∧ x < 4294967296) ∧ ((∀ p, a = some p → p.block < d) ∧ Ty w d 103 ∧ ∀ p, a = some p → l ≠ [] → Ty w p.block 101)

theorem left_nil (w : World) : Calls Try.prog 107 #[.pointer none] w fun e w' => e = .returned (.int .i64 0) ∧ w = w' := by
  go_enter Try.func107, Try.ntmps107
  go_wp2
  go_ret
  exact ⟨rfl, rfl⟩

theorem left_cell (d : Nat) (a : Option Addr) (len cap : Nat) (w : World) (hd : w.cell? ⟨d, 0, none⟩ = some (.slice a len cap)) :
    Calls Try.prog 107 #[.pointer (some ⟨d, 0, none⟩)] w fun e w' => e = .returned (.int .i64 len) ∧ w = w' := by
  go_enter Try.func107, Try.ntmps107
  go_wp2
  go_ret
  exact ⟨rfl, rfl⟩

theorem left_any (d : Nat) (l : List Int) (w : World) (h : DrawAt w d l) :
    Calls Try.prog 107 #[.pointer (some ⟨d, 0, none⟩)] w fun e w' => e = .returned (.int .i64 l.length) ∧ w = w' := by
  obtain ⟨a, cap, hd, _⟩ := h
  exact left_cell d a _ cap w hd

theorem below_nil (n : Int) (w : World) : Calls Try.prog 100 #[.pointer none, .int .i64 n] w fun e w' => e = .returned (.int .i64 0) ∧ w = w' := by
  by_cases h : n < 2
  · go_enter Try.func100, Try.ntmps100
    go_wp2
    go_ret
    exact ⟨rfl, rfl⟩
  by_cases h : 2147483647 < n
  · go_enter Try.func100, Try.ntmps100
    go_wp2
    go_ret
    exact ⟨rfl, rfl⟩
  go_enter Try.func100, Try.ntmps100
  go_wp2_with (go_at_call 107; refine (left_nil _).mono ?_; rintro e w' ⟨rfl, rfl⟩)
  go_ret
  exact ⟨rfl, rfl⟩

theorem below_out (d : Nat) (n : Int) (w : World) (h : n < 2 ∨ 2147483647 < n) :
    Calls Try.prog 100 #[.pointer (some ⟨d, 0, none⟩), .int .i64 n] w fun e w' => e = .returned (.int .i64 0) ∧ w = w' := by
  rcases h with h | h
  · go_enter Try.func100, Try.ntmps100
    go_wp2
    go_ret
    exact ⟨rfl, rfl⟩
  · have h' : ¬ n < 2 := by omega
    go_enter Try.func100, Try.ntmps100
    go_wp2
    go_ret
    exact ⟨rfl, rfl⟩

theorem below_empty (d : Nat) (n : Int) (w : World) (h : ¬ n < 2) (h2 : ¬ 2147483647 < n) (a : Option Addr) (cap : Nat) (hd : w.cell? ⟨d, 0, none⟩ = some (.slice a 0 cap)) :
    Calls Try.prog 100 #[.pointer (some ⟨d, 0, none⟩), .int .i64 n] w fun e w' => e = .returned (.int .i64 0) ∧ w = w' := by
  go_enter Try.func100, Try.ntmps100
  go_wp2_with (go_at_call 107; refine (left_cell _ _ _ _ _ hd).mono ?_; rintro e w' ⟨rfl, rfl⟩)
  go_ret
  exact ⟨rfl, rfl⟩

theorem below_in (d s off : Nat) (x n : Int) (len cap : Nat) (w : World) (h : ¬ n < 2) (h2 : ¬ 2147483647 < n) (h0 : 0 < len) (hlc : len ≤ cap) (hcm : cap ≤ 9223372036854775807)
   (hd : w.cell? ⟨d, 0, none⟩ = some (.slice (some ⟨s, off, none⟩) len cap)) (hf : w.frozen? ⟨d, 0, none⟩ = false) 
   (hx0 : 0 ≤ x) (hx : w.cell? ⟨s, off, none⟩ = some (.int .u32 x)) :
    Calls Try.prog 100 #[.pointer (some ⟨d, 0, none⟩), .int .i64 n] w fun e w' => e = .returned (.int .i64 (x % n)) ∧ 
       ∃ a, w' = w.setCell ⟨d, 0, none⟩ (.slice (some a) (len-1) (cap-1)) ∧ (1 < len → a = ⟨s, off+1, none⟩) ∧ a.block = s := by
  have hne : ((len : Int) == 0) = false := by simp; omega
  have hm1 : 0 ≤ x % n := Int.emod_nonneg _ (by omega)
  have hm2 : x % n < n := Int.emod_lt_of_pos _ (by omega)
  by_cases hc : cap = 1
  · subst hc
    obtain rfl : len = 1 := by omega
    go_enter Try.func100, Try.ntmps100
    go_wp2_with (go_at_call 107; refine (left_cell _ _ _ _ _ hd).mono ?_; rintro e w' ⟨rfl, rfl⟩)
    go_ret
    exact ⟨rfl, ⟨s, off, none⟩, rfl, by omega, rfl⟩
  · go_enter Try.func100, Try.ntmps100
    go_wp2_with (go_at_call 107; refine (left_cell _ _ _ _ _ hd).mono ?_; rintro e w' ⟨rfl, rfl⟩)
    go_ret
    exact ⟨rfl, ⟨s, off + 1, none⟩, rfl, fun _ => rfl, rfl⟩

theorem below_any (d : Nat) (l : List Int) (n : Int) (w : World) (h : DrawAt w d l) :
    Calls Try.prog 100 #[.pointer (some ⟨d, 0, none⟩), .int .i64 n] w fun e w' => e = .returned (.int .i64 (bel l n).1) ∧ DrawAt w' d (bel l n).2 ∧ Fr (· = d) w w' := by
  by_cases ho : n < 2 ∨ 2147483647 < n
  · rw [bel_out ho]
    refine (below_out d n w ho).mono ?_
    rintro e w' ⟨rfl, rfl⟩
    exact ⟨rfl, h, Fr.refl _ _⟩
  obtain ⟨a, cap, hd, hf, hs, hr, hb⟩ := h
  cases l with
  | nil =>
    have e : bel [] n = (0, []) := by simp [bel]
    rw [e]
    refine (below_empty d n w (by omega) (by omega) a cap hd).mono ?_
    rintro e w' ⟨rfl, rfl⟩
    exact ⟨rfl, ⟨a, cap, hd, hf, hs, hr, hb⟩, Fr.refl _ _⟩
  | cons x r =>
    have e : bel (x :: r) n = (x % n, r) := by unfold bel; rw [if_pos (by omega)]
    rw [e]
    obtain ⟨b, o, rfl, hc⟩ := hs.cell 0 (.int .u32 x) rfl
    refine (below_in d b o x n _ cap w (by omega) (by omega) (by simp) hs.le hs.max hd hf (hr x (by simp)).1 hc).mono ?_
    rintro e w' ⟨rfl, a, rfl, ha, hab⟩
    have hbd0 : b < d := hb.1 _ rfl
    have hbd : b ≠ d := by omega
    have hfr : Fr (· = d) w (w.setCell ⟨d, 0, none⟩ (.slice (some a) ((x :: r).length - 1) (cap - 1))) := (Fr.refl (· = d) w).setCell (p := ⟨d, 0, none⟩) (.inl rfl) _
    refine ⟨rfl, ⟨some a, cap - 1, ?_, ?_, ⟨?_, ?_, ?_⟩, fun y hy => hr y (by simp [hy]), fun p hp => ?_, ?_, fun p hp _ => ?_⟩, hfr⟩
    · rw [World.cell?_setCell_same _ _ _ hd]; simp
    · simpa using hf
    · have := hs.le; simp at this ⊢; omega
    · have := hs.max; omega
    · intro j u hj
      have hj' := (List.getElem?_eq_some_iff.1 hj).1
      simp at hj'
      obtain rfl := ha (by simp; omega)
      obtain ⟨b', o', hp, hc'⟩ := hs.cell (j + 1) u (by simpa using hj)
      cases hp
      exact ⟨b, o + 1, rfl, by rw [Nat.add_assoc, Nat.add_comm 1 j]; exact hfr.cell hc' hbd⟩
    · cases hp; rw [hab]; exact hbd0
    · exact hb.2.1.set 0 _
    · cases hp; rw [hab]; exact (hb.2.2 _ rfl (by simp)).keep hfr (by omega)


theorem heap_alloc_top (w : World) (o : Obj) : (w.alloc o).heap[w.heap.size]? = some o := by
  show (w.heap.push o)[w.heap.size]? = some o
  simp
theorem ty_own {w : World} {base : Nat} {a : Option Addr} {n cap : Nat} {l : List Int} (h : w.ownsRow base 101 1 (.slice a n cap) n (l.map (Value.int .u32))) {p : Addr} (hp : a = some p) : Ty w p.block 101 := by
  rcases h.2 with ⟨e, _⟩ | ⟨g, c, cur, e, _, hh, _⟩
  · injection e with e
    rw [hp] at e
    cases e
  · injection e with e
    rw [hp] at e
    injection e with e
    rw [e]
    exact ⟨_, _, hh⟩
theorem new_any (a : Option Addr) (cap : Nat) (l : List Int) (w : World) (h : SlA w a l.length cap (l.map (Value.int .u32))) (hb : l.length * 4 ≤ 140737488355328) (hr : ∀ x ∈ l, 0 ≤ x ∧ x < 4294967296) :
    Calls Try.prog 10 #[.slice a l.length cap] w fun e w' => ∃ d, e = .returned (.pointer (some ⟨d, 0, none⟩)) ∧ w.heap.size ≤ d ∧ DrawAt w' d l ∧ Below w.heap.size w w' := by
  go_enter Try.func10, Try.ntmps10
  go_wp2_with (go_at_call 42; refine (clone_u32 a _ cap _ w h (by simp) (by intro u hu; obtain ⟨x, _, rfl⟩ := List.mem_map.1 hu; rfl) hb).mono ?_; rintro e w1 ⟨v, rfl, hown, _, hbl⟩; obtain ⟨a', cap', rfl, hs, hp, _⟩ := SlA.of_own hown)
  go_ret
  refine ⟨w1.heap.size, rfl, hbl.size, ⟨a', cap', ?_, ?_, hs.keep ((Fr.refl (fun _ => False) w1).alloc _) (fun _ _ => id), hr, fun p e => (hp p e).2.1, ⟨_, _, by rw [heap_alloc_top]⟩, fun p e _ => (ty_own hown e).keep ((Fr.refl (fun _ => False) w1).alloc _) (fun h => h)⟩, hbl.alloc hbl.size _⟩
  · rw [World.cell?_alloc_at _ _ _ _ rfl]; rfl
  · exact World.frozen?_alloc_at _ _ _ _ rfl

theorem DrawAt.keep {S : Nat → Prop} {w w' : World} {d : Nat} {l : List Int} (h : DrawAt w d l) (f : Fr S w w') (hS : ∀ k, k ≤ d → ¬ S k) : DrawAt w' d l := by
  obtain ⟨a, cap, h1, h2, h3, h4, h5, h6, h7⟩ := h
  exact ⟨a, cap, f.cell h1 (hS d (Nat.le_refl _)), (f.frozen h1 (hS d (Nat.le_refl _))).trans h2, h3.keep f (fun p hp => hS _ (Nat.le_of_lt (h5 p hp))), h4, h5, h6.keep f (hS d (Nat.le_refl _)), fun p hp hn => (h7 p hp hn).keep f (hS _ (Nat.le_of_lt (h5 p hp)))⟩
/-- a block changes that is neither the draw's nor holds such numbers -/
theorem DrawAt.keepNe {w w' : World} {d b : Nat} {l : List Int} (h : DrawAt w d l) (f : Fr (fun k => k = b) w w') (hd : d ≠ b) (hr : ∀ (o : Nat) (x : Int), w.cell? ⟨b, o, none⟩ ≠ some (.int .u32 x)) : DrawAt w' d l := by
  obtain ⟨a, cap, h1, h2, h3, h4, h5, h6, h7⟩ := h
  have key : ∀ p, a = some p → l ≠ [] → p.block ≠ b := by
    intro p hp hl e
    cases l with
    | nil => exact hl rfl
    | cons x r =>
      obtain ⟨b', o', e2, hc⟩ := h3.cell 0 _ rfl
      rw [hp] at e2
      injection e2 with e2
      rw [e2] at e
      simp only at e
      subst e
      exact hr _ _ hc
  refine ⟨a, cap, f.cell h1 hd, (f.frozen h1 hd).trans h2, ⟨h3.le, h3.max, fun j u hj => ?_⟩, h4, h5, h6.keep f hd, fun p hp hn => (h7 p hp hn).keep f (key p hp hn)⟩
  obtain ⟨b', o', e2, hc⟩ := h3.cell j u hj
  exact ⟨b', o', e2, f.cell hc (key ⟨b', o', none⟩ e2 (fun e => by rw [e] at hj; simp at hj))⟩
theorem DrawAt.keepTy {w w' : World} {d b : Nat} {l : List Int} {T : TypeId} (h : DrawAt w d l) (f : Fr (fun k => k = b) w w') (ht : Ty w b T) (h1 : T ≠ 103) (h2 : T ≠ 101) : DrawAt w' d l := by
  obtain ⟨a, cap, k1, k2, k3, k4, k5, k6, k7⟩ := h
  have hd : d ≠ b := fun e => h1 (ht.uniq (e ▸ k6))
  have key : ∀ p, a = some p → l ≠ [] → p.block ≠ b := fun p hp hl e => h2 (ht.uniq (e ▸ k7 p hp hl))
  refine ⟨a, cap, f.cell k1 hd, (f.frozen k1 hd).trans k2, ⟨k3.le, k3.max, fun j u hj => ?_⟩, k4, k5, k6.keep f hd, fun p hp hn => (k7 p hp hn).keep f (key p hp hn)⟩
  obtain ⟨b', o', e2, hc⟩ := k3.cell j u hj
  exact ⟨b', o', e2, f.cell hc (key ⟨b', o', none⟩ e2 (fun e => by rw [e] at hj; simp at hj))⟩
theorem DrawAt.ty {w : World} {d : Nat} {l : List Int} (h : DrawAt w d l) : Ty w d 103 := by
  obtain ⟨a, cap, k1, k2, k3, k4, k5, k6, k7⟩ := h
  exact k6
theorem DrawAt.alloc {w : World} {d : Nat} {l : List Int} (h : DrawAt w d l) (o : Obj) : DrawAt (w.alloc o) d l :=
  h.keep (S := fun _ => False) ((Fr.refl _ _).alloc _) (fun _ _ => id)
theorem DrawAt.range {w : World} {d : Nat} {l : List Int} (h : DrawAt w d l) : ∀ x ∈ l, 0 ≤ x ∧ x < 4294967296 := by
  obtain ⟨a, cap, h1, h2, h3, h4, h5⟩ := h; exact h4
theorem DrawAt.lt {w : World} {d : Nat} {l : List Int} (h : DrawAt w d l) : d < w.heap.size := by
  obtain ⟨a, cap, h1, _⟩ := h; exact lt_of_cell h1

theorem DrawAt.drewN {w : World} {d : Nat} {l : List Int} (h : DrawAt w d l) (n : Nat) : DrawAt (w.drewN n) d l := by
  obtain ⟨a, cap, h1, h2, h3, h4, h5⟩ := h
  exact ⟨a, cap, h1, h2, ⟨h3.le, h3.max, h3.cell⟩, h4, h5⟩
theorem left_n (d : Nat) (l : List Int) (n : Nat) (hn : l.length = n) (w : World) (h : DrawAt w d l) :
    Calls Try.prog 107 #[.pointer (some ⟨d, 0, none⟩)] w fun e w' => e = .returned (.int .i64 n) ∧ w = w' := by
  subst hn; exact left_any d l w h
end
section
open Go.RowKit Go.Proofs

/-- a view: the node, who is active (and for how many), who is passive -/
structure Vw where
  self : Int
  act : List Int
  am : Int
  pas : List Int
  pm : Int
structure Vw.Good (v : Vw) : Prop where
  act : Go.Proofs.Ytelepohdfcjnfaa.Good v.act v.am
  pas : Go.Proofs.Ytelepohdfcjnfaa.Good v.pas v.pm

/-- one of some, and the numbers that are left -/
def oneV (ds l : List Int) : Int × Bool × List Int := if l = [] then (0, false, ds) else (l.getD (belN ds l.length) 0, true, (bel ds l.length).2)

def vForget (v : Vw) (n : Int) : Vw := { v with pas := sDrop v.pas n }
def vJoinOk (v : Vw) (n : Int) : Bool := sAddOk v.act v.am n && !(n == v.self)
def vJoin (v : Vw) (n : Int) : Vw := if vJoinOk v n = true then { v with act := sAdd v.act v.am n, pas := sDrop v.pas n } else v
/-- is a node one that a view would come to know? -/
def vNew (v : Vw) (n : Int) : Bool := decide (1 ≤ n) && decide (n ≤ 65535) && !(n == v.self) && !has v.act n && !has v.pas n
def vFull (v : Vw) : Bool := decide (v.pm ≤ (v.pas.length : Int))
/-- who is passive, and the numbers that are left, when a new node comes -/
def vRoom (v : Vw) (ds : List Int) : List Int × List Int := if vFull v = true ∧ v.pas ≠ [] then (sDrop v.pas (oneV ds v.pas).1, (oneV ds v.pas).2.2) else (v.pas, ds)
def vKnow (v : Vw) (n : Int) (ds : List Int) : Vw × List Int :=
  if vNew v n = true then ({ v with pas := if sAddOk (vRoom v ds).1 v.pm n = true then sAdd (vRoom v ds).1 v.pm n else v.pas }, (vRoom v ds).2) else (v, ds)
def vLeave (v : Vw) (n : Int) (keep : Bool) (ds : List Int) : Vw × Bool × List Int :=
  if has v.act n = true then
    (if keep = true then ((vKnow { v with act := sDrop v.act n } n ds).1, true, (vKnow { v with act := sDrop v.act n } n ds).2) else ({ v with act := sDrop v.act n }, true, ds))
  else (v, false, ds)
def vEvict (v : Vw) (ds : List Int) : Vw × Int × Bool × List Int :=
  if v.act = [] then (v, 0, false, ds) else
    ((vLeave v (oneV ds v.act).1 true (oneV ds v.act).2.2).1, (oneV ds v.act).1, true, (vLeave v (oneV ds v.act).1 true (oneV ds v.act).2.2).2.2)
def vSane (v : Vw) : Bool := !has v.act v.self && !has v.pas v.self && !v.act.any (has v.pas)

theorem vForget_good {v : Vw} (h : v.Good) (n : Int) : (vForget v n).Good := ⟨h.act, h.pas.drop n⟩
theorem vJoin_good {v : Vw} (h : v.Good) (n : Int) : (vJoin v n).Good := by
  unfold vJoin
  split
  · exact ⟨h.act.add n, h.pas.drop n⟩
  · exact h
theorem vRoom_good {v : Vw} (h : v.Good) (ds : List Int) : Go.Proofs.Ytelepohdfcjnfaa.Good (vRoom v ds).1 v.pm := by
  unfold vRoom
  split
  · exact h.pas.drop _
  · exact h.pas
theorem vKnow_good {v : Vw} (h : v.Good) (n : Int) (ds : List Int) : (vKnow v n ds).1.Good := by
  unfold vKnow
  split
  · refine ⟨h.act, ?_⟩
    simp only
    split
    · exact (vRoom_good h ds).add n
    · exact h.pas
  · exact h
theorem vLeave_good {v : Vw} (h : v.Good) (n : Int) (keep : Bool) (ds : List Int) : (vLeave v n keep ds).1.Good := by
  have h2 : Vw.Good { v with act := sDrop v.act n } := ⟨h.act.drop n, h.pas⟩
  unfold vLeave
  split
  · split
    · exact vKnow_good h2 n ds
    · exact h2
  · exact h
theorem vEvict_good {v : Vw} (h : v.Good) (ds : List Int) : (vEvict v ds).1.Good := by
  unfold vEvict
  split
  · exact h
  · exact vLeave_good h _ _ _
end
section
open Go.RowKit Go.Proofs

theorem sDrop_mem {l : List Int} (h : l.Pairwise (· < ·)) (n x : Int) : x ∈ sDrop l n ↔ x ∈ l ∧ x ≠ n := by
  rw [sDrop_eq h, List.mem_filter]
  simp
theorem sAdd_sub {l : List Int} {m n x : Int} (h : x ∈ sAdd l m n) : x = n ∨ x ∈ l := by
  unfold sAdd at h
  split at h
  · exact .inr h
  · split at h
    · exact (ins_mem l n x).1 h
    · exact .inr h
theorem sAdd_sup {l : List Int} {m n x : Int} (h : x ∈ l) : x ∈ sAdd l m n := by
  unfold sAdd
  split
  · exact h
  · split
    · exact (ins_mem l n x).2 (.inr h)
    · exact h
theorem sAdd_has {l : List Int} {m n : Int} (h : sAddOk l m n = true) : n ∈ sAdd l m n := by
  unfold sAdd
  by_cases h1 : has l n = true
  · rw [if_pos h1]; exact (has_iff _ _).1 h1
  · rw [if_neg h1]
    have : 1 ≤ n ∧ n ≤ 65535 ∧ (l.length : Int) < m := by
      unfold sAddOk at h
      simp only [Bool.or_eq_true, Bool.and_eq_true, decide_eq_true_eq] at h
      rcases h with h | h
      · exact absurd h h1
      · exact ⟨h.1.1, h.1.2, h.2⟩
    rw [if_pos this]
    exact (ins_mem l n n).2 (.inl rfl)
theorem sAdd_len {l : List Int} {m n : Int} (h : sAddOk l m n = true) (hn : has l n = false) : (sAdd l m n).length = l.length + 1 := by
  unfold sAdd
  rw [if_neg (by rw [hn]; decide)]
  have : 1 ≤ n ∧ n ≤ 65535 ∧ (l.length : Int) < m := by
    unfold sAddOk at h
    simp only [hn, Bool.false_or, Bool.and_eq_true, decide_eq_true_eq] at h
    exact ⟨h.1.1, h.1.2, h.2⟩
  rw [if_pos this, ins_length]
theorem sDrop_len {l : List Int} (h : l.Pairwise (· < ·)) {n : Int} (hn : has l n = true) : (sDrop l n).length + 1 = l.length := by
  unfold sDrop
  rw [if_pos hn, del_length h ((has_iff _ _).1 hn)]
  have : 0 < l.length := List.length_pos_of_mem ((has_iff _ _).1 hn)
  omega

/-- the rules of a view -/
structure Vw.Sane (v : Vw) : Prop where
  act : v.self ∉ v.act
  pas : v.self ∉ v.pas
  apart : ∀ x ∈ v.act, x ∉ v.pas
theorem vSane_iff (v : Vw) : vSane v = true ↔ v.Sane := by
  unfold vSane
  simp only [Bool.and_eq_true, Bool.not_eq_true', has_no]
  constructor
  · rintro ⟨⟨h1, h2⟩, h3⟩
    refine ⟨h1, h2, fun x hx hp => ?_⟩
    rw [List.any_eq_false] at h3
    exact h3 x hx ((has_iff _ _).2 hp)
  · rintro ⟨h1, h2, h3⟩
    refine ⟨⟨h1, h2⟩, ?_⟩
    rw [List.any_eq_false]
    intro x hx hh
    exact h3 x hx ((has_iff _ _).1 hh)
theorem vForget_sane {v : Vw} (hg : v.Good) (h : v.Sane) (n : Int) : (vForget v n).Sane :=
  ⟨h.act, fun hm => h.pas ((sDrop_mem hg.pas.up n _).1 hm).1, fun x hx hm => h.apart x hx ((sDrop_mem hg.pas.up n _).1 hm).1⟩
theorem vJoin_sane {v : Vw} (hg : v.Good) (h : v.Sane) (n : Int) : (vJoin v n).Sane := by
  unfold vJoin
  split
  · rename_i hok
    unfold vJoinOk at hok
    simp only [Bool.and_eq_true, Bool.not_eq_true', beq_eq_false_iff_ne] at hok
    refine ⟨fun hm => ?_, fun hm => h.pas ((sDrop_mem hg.pas.up n _).1 hm).1, fun x hx hm => ?_⟩
    · rcases sAdd_sub hm with e | hm
      · exact hok.2 e.symm
      · exact h.act hm
    · obtain ⟨h1, h2⟩ := (sDrop_mem hg.pas.up n _).1 hm
      rcases sAdd_sub hx with e | hx
      · exact h2 e
      · exact h.apart x hx h1
  · exact h
theorem vRoom_sub {v : Vw} (hg : v.Good) (ds : List Int) {x : Int} (h : x ∈ (vRoom v ds).1) : x ∈ v.pas := by
  unfold vRoom at h
  split at h
  · exact ((sDrop_mem hg.pas.up _ _).1 h).1
  · exact h
theorem vNew_iff (v : Vw) (n : Int) : vNew v n = true ↔ (1 ≤ n ∧ n ≤ 65535) ∧ n ≠ v.self ∧ n ∉ v.act ∧ n ∉ v.pas := by
  unfold vNew
  simp only [Bool.and_eq_true, Bool.not_eq_true', decide_eq_true_eq, beq_eq_false_iff_ne, has_no]
  constructor
  · rintro ⟨⟨⟨⟨a, b⟩, c⟩, d⟩, e⟩; exact ⟨⟨a, b⟩, c, d, e⟩
  · rintro ⟨⟨a, b⟩, c, d, e⟩; exact ⟨⟨⟨⟨a, b⟩, c⟩, d⟩, e⟩
theorem vKnow_sane {v : Vw} (hg : v.Good) (h : v.Sane) (n : Int) (ds : List Int) : (vKnow v n ds).1.Sane := by
  unfold vKnow
  split
  · rename_i hn
    obtain ⟨_, h1, h2, h3⟩ := (vNew_iff v n).1 hn
    have hm : ∀ x, x ∈ (if sAddOk (vRoom v ds).1 v.pm n = true then sAdd (vRoom v ds).1 v.pm n else v.pas) → x = n ∨ x ∈ v.pas := by
      intro x hx
      split at hx
      · rcases sAdd_sub hx with e | hx
        · exact .inl e
        · exact .inr (vRoom_sub hg ds hx)
      · exact .inr hx
    refine ⟨h.act, fun hs => ?_, fun x hx hp => ?_⟩
    · rcases hm _ hs with e | e
      · exact h1 e.symm
      · exact h.pas e
    · rcases hm _ hp with e | e
      · exact h2 (e ▸ hx)
      · exact h.apart x hx e
  · exact h
theorem vDrop_sane {v : Vw} (hg : v.Good) (h : v.Sane) (n : Int) : Vw.Sane { v with act := sDrop v.act n } :=
  ⟨fun hm => h.act ((sDrop_mem hg.act.up n _).1 hm).1, h.pas, fun x hx hm => h.apart x ((sDrop_mem hg.act.up n _).1 hx).1 hm⟩
theorem vLeave_sane {v : Vw} (hg : v.Good) (h : v.Sane) (n : Int) (keep : Bool) (ds : List Int) : (vLeave v n keep ds).1.Sane := by
  have hg2 : Vw.Good { v with act := sDrop v.act n } := ⟨hg.act.drop n, hg.pas⟩
  unfold vLeave
  split
  · split
    · exact vKnow_sane hg2 (vDrop_sane hg h n) n ds
    · exact vDrop_sane hg h n
  · exact h
theorem vEvict_sane {v : Vw} (hg : v.Good) (h : v.Sane) (ds : List Int) : (vEvict v ds).1.Sane := by
  unfold vEvict
  split
  · exact h
  · exact vLeave_sane hg h _ _ _
/-- who is drawn is one of them -/
theorem oneV_mem {ds l : List Int} (hd : ∀ x ∈ ds, 0 ≤ x ∧ x < 4294967296) (hl : l ≠ []) : (oneV ds l).1 ∈ l ∧ (oneV ds l).2.1 = true := by
  have h0 : 0 < l.length := List.length_pos_iff.2 hl
  obtain ⟨-, h2⟩ := belN_eq ds l.length hd h0
  unfold oneV
  rw [if_neg hl]
  refine ⟨?_, rfl⟩
  simp only
  rw [List.getD_eq_getElem?_getD, List.getElem?_eq_getElem h2]
  exact List.getElem_mem h2
theorem oneV_range {ds l : List Int} (hd : ∀ x ∈ ds, 0 ≤ x ∧ x < 4294967296) : ∀ x ∈ (oneV ds l).2.2, 0 ≤ x ∧ x < 4294967296 := by
  unfold oneV
  split
  · exact hd
  · exact bel_sub ds _ (fun x => 0 ≤ x ∧ x < 4294967296) hd
theorem vRoom_len {v : Vw} (hg : v.Good) {ds : List Int} (hd : ∀ x ∈ ds, 0 ≤ x ∧ x < 4294967296) : ((vRoom v ds).1.length : Int) < v.pm ∨ v.pm = 0 := by
  have hf := hg.pas.fit
  have h0 := hg.pas.least
  unfold vRoom
  by_cases hfull : vFull v = true
  · by_cases hn : v.pas = []
    · right
      unfold vFull at hfull
      rw [hn] at hfull
      simp at hfull
      omega
    · rw [if_pos ⟨hfull, hn⟩]
      left
      have hm := oneV_mem hd hn
      have := sDrop_len hg.pas.up ((has_iff _ _).2 hm.1)
      simp only
      omega
  · rw [if_neg (fun h => hfull h.1)]
    left
    unfold vFull at hfull
    simp only [decide_eq_true_eq] at hfull
    simp only
    omega
/-- what comes of an active node that is evicted -/
structure Evicted (v : Vw) (ds : List Int) : Prop where
  ok : (vEvict v ds).2.2.1 = true
  was : (vEvict v ds).2.1 ∈ v.act
  node : 1 ≤ (vEvict v ds).2.1 ∧ (vEvict v ds).2.1 ≤ 65535
  act : (vEvict v ds).1.act = sDrop v.act (vEvict v ds).2.1
  len : (vEvict v ds).1.act.length + 1 = v.act.length
  pas : has (vEvict v ds).1.pas (vEvict v ds).2.1 = decide (0 < v.pm)
  plen : ((vEvict v ds).1.pas.length : Int) = min ((v.pas.length : Int) + 1) v.pm
  am : (vEvict v ds).1.am = v.am
  pm : (vEvict v ds).1.pm = v.pm
  self : (vEvict v ds).1.self = v.self
theorem vEvict_facts {v : Vw} (hg : v.Good) (hs : v.Sane) {ds : List Int} (hd : ∀ x ∈ ds, 0 ≤ x ∧ x < 4294967296) (hne : v.act ≠ []) : Evicted v ds := by
  have hm := oneV_mem hd hne
  obtain ⟨n, hn⟩ : ∃ n, n = (oneV ds v.act).1 := ⟨_, rfl⟩
  have hdr := oneV_range (l := v.act) hd
  obtain ⟨d2, hd2⟩ : ∃ d2, d2 = (oneV ds v.act).2.2 := ⟨_, rfl⟩
  have hE : vEvict v ds = ((vLeave v n true d2).1, n, true, (vLeave v n true d2).2.2) := by unfold vEvict; rw [if_neg hne, hn, hd2]
  rw [← hn] at hm
  rw [← hd2] at hdr
  have hact : has v.act n = true := (has_iff _ _).2 hm.1
  have hg2 : Vw.Good { v with act := sDrop v.act n } := ⟨hg.act.drop n, hg.pas⟩
  have hL : vLeave v n true d2 = ((vKnow { v with act := sDrop v.act n } n d2).1, true, (vKnow { v with act := sDrop v.act n } n d2).2) := by unfold vLeave; rw [if_pos hact, if_pos rfl]
  have hN : vNew { v with act := sDrop v.act n } n = true := by
    rw [vNew_iff]
    refine ⟨hg.act.node n hm.1, fun e => hs.act (e ▸ hm.1), fun h => ((sDrop_mem hg.act.up n n).1 h).2 rfl, hs.apart n hm.1⟩
  have hK : (vKnow { v with act := sDrop v.act n } n d2).1 = { v with act := sDrop v.act n, pas := if sAddOk (vRoom { v with act := sDrop v.act n } d2).1 v.pm n = true then sAdd (vRoom { v with act := sDrop v.act n } d2).1 v.pm n else v.pas } := by
    unfold vKnow; rw [if_pos hN]
  have hrl := vRoom_len hg2 hdr
  have hrs : ∀ x, x ∈ (vRoom { v with act := sDrop v.act n } d2).1 → x ∈ v.pas := fun x h => vRoom_sub hg2 d2 h
  have hro : ((vRoom { v with act := sDrop v.act n } d2).1.length : Int) + 1 = min ((v.pas.length : Int) + 1) v.pm ∨ v.pm = 0 := by
    rcases hrl with h | h
    · left
      unfold vRoom at h ⊢
      have hf := hg.pas.fit
      by_cases hc : vFull { v with act := sDrop v.act n } = true ∧ v.pas ≠ []
      · rw [if_pos hc]
        have hm2 := oneV_mem (ds := d2) hdr hc.2
        have := sDrop_len hg.pas.up ((has_iff _ _).2 hm2.1)
        have hfull := hc.1
        unfold vFull at hfull
        simp only [decide_eq_true_eq] at hfull
        simp only
        omega
      · rw [if_neg hc] at h ⊢
        simp only at h ⊢
        omega
    · exact .inr h
  obtain ⟨R, hR⟩ : ∃ R, R = (vRoom { v with act := sDrop v.act n } d2).1 := ⟨_, rfl⟩
  rw [← hR] at hrl hrs hro hK
  have hRn : has R n = false := (has_no _ _).2 (fun h => hs.apart n hm.1 (hrs n h))
  have hnode := hg.act.node n hm.1
  have hpl := sDrop_len hg.act.up hact
  have e1 : (vEvict v ds).1 = { v with act := sDrop v.act n, pas := if sAddOk R v.pm n = true then sAdd R v.pm n else v.pas } := by rw [hE, hL, hK]
  have e2 : (vEvict v ds).2.1 = n := by rw [hE]
  have e3 : (vEvict v ds).2.2.1 = true := by rw [hE]
  simp only at hrl
  have h0 := hg.pas.least
  have hfit := hg.pas.fit
  have hnp : has v.pas n = false := (has_no _ _).2 (hs.apart n hm.1)
  refine ⟨e3, by rw [e2]; exact hm.1, by rw [e2]; exact hnode, by rw [e1, e2], by rw [e1]; exact hpl, ?_, ?_, by rw [e1], by rw [e1], by rw [e1]⟩
  · rw [e1, e2]
    simp only
    by_cases hp : v.pm = 0
    · have hz : sAddOk R v.pm n = false := by
        unfold sAddOk
        rw [hRn, hp]
        simp
      rw [hz, hp]
      simp [hnp]
    · have hlt : (R.length : Int) < v.pm := by omega
      have hz : sAddOk R v.pm n = true := by
        unfold sAddOk
        simp only [hRn, Bool.false_or, Bool.and_eq_true, decide_eq_true_eq]
        exact ⟨⟨hnode.1, hnode.2⟩, hlt⟩
      rw [if_pos hz, (has_iff _ _).2 (sAdd_has hz), decide_eq_true (by omega)]
  · rw [e1]
    simp only
    by_cases hp : v.pm = 0
    · have hz : sAddOk R v.pm n = false := by
        unfold sAddOk
        rw [hRn, hp]
        simp
      rw [hz]
      simp
      omega
    · have hlt : (R.length : Int) < v.pm := by omega
      have hz : sAddOk R v.pm n = true := by
        unfold sAddOk
        simp only [hRn, Bool.false_or, Bool.and_eq_true, decide_eq_true_eq]
        exact ⟨⟨hnode.1, hnode.2⟩, hlt⟩
      have := sAdd_len hz hRn
      rw [if_pos hz, this]
      rcases hro with h | h
      · omega
      · exact absurd h hp
end
section
open Go.RowKit Go.Proofs

def srt (l : List Int) : List Int := l.mergeSort (fun a b => decide (a ≤ b))
theorem srt_perm (l : List Int) : (srt l).Perm l := List.mergeSort_perm l _
theorem srt_up (l : List Int) : (srt l).Pairwise (· ≤ ·) := by
  have h := List.pairwise_mergeSort (le := fun a b : Int => decide (a ≤ b)) (fun a b c h1 h2 => by simp at *; omega) (fun a b => by simp; omega) l
  exact h.imp (fun h => by simpa using h)
theorem srt_len (l : List Int) : (srt l).length = l.length := (srt_perm l).length_eq
theorem srt_nil {l : List Int} (h : l ≠ []) : srt l ≠ [] := fun e => h (by have := srt_len l; rw [e] at this; exact List.eq_nil_of_length_eq_zero this.symm)
theorem up_uniq : ∀ {a b : List Int}, a.Perm b → a.Pairwise (· ≤ ·) → b.Pairwise (· ≤ ·) → a = b
  | [], b, h, _, _ => (List.nil_perm.1 h).symm
  | x :: a, b, h, ha, hb => by
    cases b with
    | nil => exact absurd (List.perm_nil.1 h) (by simp)
    | cons y b =>
      obtain ⟨h1, h2⟩ := List.pairwise_cons.1 ha
      obtain ⟨h3, h4⟩ := List.pairwise_cons.1 hb
      have hxy : x = y := by
        have m1 : x ∈ y :: b := h.mem_iff.1 (by simp)
        have m2 : y ∈ x :: a := h.mem_iff.2 (by simp)
        rcases List.mem_cons.1 m1 with e | e
        · exact e
        · rcases List.mem_cons.1 m2 with e2 | e2
          · exact e2.symm
          · have := h3 x e; have := h1 y e2; omega
      subst hxy
      rw [up_uniq ((List.perm_cons x).1 h) h2 h4]

def rDrop (l : List Int) (n : Int) : List Int := l.filter (fun x => x != n)
theorem rDrop_len (l : List Int) (n : Int) : (rDrop l n).length ≤ l.length := List.length_filter_le _ _
def rForget (u : Vw) (n : Int) : Vw := { u with pas := rDrop u.pas n }
def rJoinNo (u : Vw) (n : Int) : Bool := decide (n < 1) || decide (65535 < n) || (n == u.self) || (!has u.act n && decide (u.am ≤ (u.act.length : Int)))
def rJoin (u : Vw) (n : Int) : Vw := if rJoinNo u n = true then u else { u with pas := rDrop u.pas n, act := if has u.act n = true then u.act else u.act ++ [n] }
def rKnowNo (u : Vw) (n : Int) : Bool := decide (n < 1) || decide (65535 < n) || (n == u.self) || (u.pm == 0) || has u.act n || has u.pas n
def rKnow (u : Vw) (n : Int) (ds : List Int) : Vw × List Int :=
  if rKnowNo u n = true then (u, ds) else
    if u.pm ≤ (u.pas.length : Int) then ({ u with pas := rDrop u.pas (oneV ds (srt u.pas)).1 ++ [n] }, (oneV ds (srt u.pas)).2.2) else ({ u with pas := u.pas ++ [n] }, ds)
def rLeave (u : Vw) (n : Int) (keep : Bool) (ds : List Int) : Vw × Bool × List Int :=
  if has u.act n = true then
    (if keep = true then ((rKnow { u with act := rDrop u.act n } n ds).1, true, (rKnow { u with act := rDrop u.act n } n ds).2) else ({ u with act := rDrop u.act n }, true, ds))
  else (u, false, ds)
def rEvict (u : Vw) (ds : List Int) : Vw × Int × Bool × List Int :=
  if u.act = [] then (u, 0, false, ds) else
    ((rLeave u (oneV ds (srt u.act)).1 true (oneV ds (srt u.act)).2.2).1, (oneV ds (srt u.act)).1, true, (rLeave u (oneV ds (srt u.act)).1 true (oneV ds (srt u.act)).2.2).2.2)

/-- a view and the document's of it -/
structure Like (v u : Vw) : Prop where
  self : u.self = v.self
  act : v.act.Perm u.act
  pas : v.pas.Perm u.pas
  am : u.am = v.am
  pm : u.pm = v.pm
theorem perm_hasV {L M : List Int} (h : L.Perm M) (n : Int) : has M n = has L n := by
  by_cases hn : n ∈ L
  · rw [(has_iff _ _).2 hn, (has_iff _ _).2 (h.mem_iff.1 hn)]
  · rw [(has_no _ _).2 hn, (has_no _ _).2 (fun h' => hn (h.mem_iff.2 h'))]
theorem perm_srt {L M : List Int} (h : L.Perm M) (hl : L.Pairwise (· < ·)) : srt M = L := up_uniq ((srt_perm M).trans h.symm) (srt_up M) (hl.imp (fun h => Int.le_of_lt h))
theorem perm_dropV {L M : List Int} (h : L.Perm M) (hl : L.Pairwise (· < ·)) (n : Int) : (sDrop L n).Perm (rDrop M n) := by rw [sDrop_eq hl]; exact h.filter _
theorem perm_addV {L M : List Int} (h : L.Perm M) {m n : Int} (h0 : has L n = false) (h1 : 1 ≤ n) (h2 : n ≤ 65535) (h3 : (L.length : Int) < m) : (sAdd L m n).Perm (M ++ [n]) := by
  unfold sAdd
  rw [if_neg (by rw [h0]; decide), if_pos ⟨h1, h2, h3⟩]
  exact ((ins_perm L n).trans (h.cons n)).trans (List.perm_append_comm (l₁ := [n]) (l₂ := M))

theorem like_forget {v u : Vw} (h : Like v u) (g : v.Good) (n : Int) : Like (vForget v n) (rForget u n) := ⟨h.self, h.act, perm_dropV h.pas g.pas.up n, h.am, h.pm⟩
theorem like_joinOk {v u : Vw} (h : Like v u) (g : v.Good) (n : Int) : rJoinNo u n = !vJoinOk v n := by
  unfold rJoinNo vJoinOk sAddOk
  rw [perm_hasV h.act, h.self, h.am, h.act.symm.length_eq]
  have hn : has v.act n = true → 1 ≤ n ∧ n ≤ 65535 := fun e => g.act.node n ((has_iff _ _).1 e)
  generalize has v.act n = b at hn ⊢
  rw [Bool.eq_iff_iff]
  by_cases hs : n = v.self
  · simp [hs]
  · have : (n == v.self) = false := by simpa using hs
    rw [this]
    cases b
    · simp
    · have := hn rfl
      simp
      omega
theorem like_join {v u : Vw} (h : Like v u) (g : v.Good) (n : Int) : Like (vJoin v n) (rJoin u n) := by
  have hk := like_joinOk h g n
  unfold rJoin vJoin
  rcases Bool.eq_false_or_eq_true (vJoinOk v n) with hj | hj
  rotate_left
  · rw [hj] at hk
    rw [if_pos (show rJoinNo u n = true by rw [hk]; rfl), if_neg (show ¬ vJoinOk v n = true by rw [hj]; simp)]
    exact h
  · rw [hj] at hk
    rw [if_neg (show ¬ rJoinNo u n = true by rw [hk]; simp), if_pos hj]
    refine ⟨h.self, ?_, perm_dropV h.pas g.pas.up n, h.am, h.pm⟩
    simp only
    rw [perm_hasV h.act]
    cases hh : has v.act n
    · rw [if_neg (by simp)]
      unfold vJoinOk sAddOk at hj
      rw [hh] at hj
      simp only [Bool.false_or, Bool.and_eq_true, decide_eq_true_eq] at hj
      exact perm_addV h.act hh hj.1.1.1 hj.1.1.2 hj.1.2
    · rw [if_pos rfl]
      unfold sAdd
      rw [if_pos hh]
      exact h.act
theorem like_know {v u : Vw} (h : Like v u) (g : v.Good) (n : Int) {ds : List Int} (hr : ∀ x ∈ ds, 0 ≤ x ∧ x < 4294967296) : Like (vKnow v n ds).1 (rKnow u n ds).1 ∧ (rKnow u n ds).2 = (vKnow v n ds).2 := by
  have hs : srt u.pas = v.pas := perm_srt h.pas g.pas.up
  unfold rKnow vKnow
  rcases Bool.eq_false_or_eq_true (vNew v n) with hv | hv
  rotate_left
  · rw [if_neg (show ¬ vNew v n = true by rw [hv]; simp)]
    have : rKnowNo u n = true := by
      unfold vNew at hv
      unfold rKnowNo
      rw [perm_hasV h.act, perm_hasV h.pas, h.self, h.pm]
      generalize has v.act n = b1 at hv ⊢
      generalize has v.pas n = b2 at hv ⊢
      by_cases h1 : 1 ≤ n
      · by_cases h2 : n ≤ 65535
        · rw [decide_eq_true h1, decide_eq_true h2] at hv
          cases b1 <;> cases b2 <;> simp_all
        · rw [decide_eq_true (show 65535 < n by omega)]; simp
      · rw [decide_eq_true (show n < 1 by omega)]; simp
    rw [if_pos this]
    exact ⟨h, rfl⟩
  · rw [if_pos hv]
    unfold vNew at hv
    simp only [Bool.and_eq_true, decide_eq_true_eq, Bool.not_eq_true'] at hv
    obtain ⟨⟨⟨⟨h1, h2⟩, h3⟩, h4⟩, h5⟩ := hv
    have hno : rKnowNo u n = (v.pm == 0) := by
      unfold rKnowNo
      rw [perm_hasV h.act, perm_hasV h.pas, h.self, h.pm, h3, h4, h5, decide_eq_false (show ¬ n < 1 by omega), decide_eq_false (show ¬ 65535 < n by omega)]
      simp
    have hl := h.pas.length_eq
    have hf := g.pas.fit
    have h0 := g.pas.least
    by_cases hz : v.pm = 0
    · rw [if_pos (show rKnowNo u n = true by rw [hno]; simpa using hz)]
      have hp : v.pas = [] := List.eq_nil_of_length_eq_zero (by omega)
      have hroom : vRoom v ds = ([], ds) := by unfold vRoom; rw [hp]; simp
      rw [hroom]
      refine ⟨⟨h.self, h.act, ?_, h.am, h.pm⟩, rfl⟩
      simp only
      rw [if_neg (by unfold sAddOk; rw [hz]; simp [has])]
      exact h.pas
    · rw [if_neg (show ¬ rKnowNo u n = true by rw [hno]; simpa using hz), hs, h.pm]
      by_cases hfull : v.pm ≤ (u.pas.length : Int)
      · rw [if_pos hfull]
        have hne : v.pas ≠ [] := fun e => by rw [e] at hl; simp at hl; omega
        have hroom : vRoom v ds = (sDrop v.pas (oneV ds v.pas).1, (oneV ds v.pas).2.2) := by
          unfold vRoom
          rw [if_pos ⟨by unfold vFull; simp; omega, hne⟩]
        rw [hroom]
        obtain ⟨o, ho⟩ : ∃ o, o = (oneV ds v.pas).1 := ⟨_, rfl⟩
        have hm : o ∈ v.pas := by rw [ho]; exact (oneV_mem hr hne).1
        have hlen := sDrop_len g.pas.up ((has_iff _ _).2 hm)
        have hnn : has (sDrop v.pas o) n = false := (has_no _ _).2 (fun e => (has_no _ _).1 h5 ((sDrop_mem g.pas.up o n).1 e).1)
        rw [← ho]
        simp only
        rw [if_pos (by unfold sAddOk; rw [hnn]; simp; omega)]
        refine ⟨⟨h.self, h.act, ?_, h.am, rfl⟩, trivial⟩
        exact perm_addV (perm_dropV h.pas g.pas.up o) hnn h1 h2 (by omega)
      · rw [if_neg hfull]
        have hroom : vRoom v ds = (v.pas, ds) := by
          unfold vRoom
          rw [if_neg (fun e => by have := e.1; unfold vFull at this; simp at this; omega)]
        rw [hroom]
        simp only
        rw [if_pos (by unfold sAddOk; rw [h5]; simp; omega)]
        exact ⟨⟨h.self, h.act, perm_addV h.pas h5 h1 h2 (by omega), h.am, rfl⟩, trivial⟩
theorem like_leave {v u : Vw} (h : Like v u) (g : v.Good) (n : Int) (keep : Bool) {ds : List Int} (hr : ∀ x ∈ ds, 0 ≤ x ∧ x < 4294967296) :
    Like (vLeave v n keep ds).1 (rLeave u n keep ds).1 ∧ (rLeave u n keep ds).2 = (vLeave v n keep ds).2 := by
  have h2 : Like { v with act := sDrop v.act n } { u with act := rDrop u.act n } := ⟨h.self, perm_dropV h.act g.act.up n, h.pas, h.am, h.pm⟩
  have g2 : Vw.Good { v with act := sDrop v.act n } := ⟨g.act.drop n, g.pas⟩
  unfold rLeave vLeave
  rw [perm_hasV h.act]
  cases has v.act n
  · exact ⟨h, rfl⟩
  · cases keep
    · exact ⟨h2, rfl⟩
    · obtain ⟨a, b⟩ := like_know h2 g2 n hr
      refine ⟨a, ?_⟩
      simp only [if_true]
      rw [b]
theorem like_evict {v u : Vw} (h : Like v u) (g : v.Good) {ds : List Int} (hr : ∀ x ∈ ds, 0 ≤ x ∧ x < 4294967296) :
    Like (vEvict v ds).1 (rEvict u ds).1 ∧ (rEvict u ds).2 = (vEvict v ds).2 := by
  have hs : srt u.act = v.act := perm_srt h.act g.act.up
  unfold rEvict vEvict
  rw [hs]
  by_cases he : v.act = []
  · have : u.act = [] := by have := h.act.length_eq; rw [he] at this; exact List.eq_nil_of_length_eq_zero this.symm
    rw [if_pos he, if_pos this]
    exact ⟨h, rfl⟩
  · have : u.act ≠ [] := fun e => he (by have := h.act.length_eq; rw [e] at this; exact List.eq_nil_of_length_eq_zero this)
    rw [if_neg he, if_neg this]
    obtain ⟨a, b⟩ := like_leave h g (oneV ds v.act).1 true (oneV_range (l := v.act) hr)
    refine ⟨a, ?_⟩
    simp only
    rw [b]
end
section
open Go.RowKit Go.Proofs

/-- a hand: its view, and whom it asked -/
structure Hd where
  v : Vw
  asked : List Int
structure Hd.Good (h : Hd) : Prop where
  v : h.v.Good
  asked : Go.Proofs.Ytelepohdfcjnfaa.Good h.asked 64
/-- a word to a node: kinds 3 Ask, 4 Yes, 5 No, 6 Bye -/
structure Ho where
  who : Int
  kind : Int
  high : Bool
def hNew (self a p : Int) : Hd := ⟨⟨self, [], min (max a 0) 64, [], min (max p 0) 64⟩, []⟩
def vaFull (v : Vw) : Bool := decide (v.am ≤ (v.act.length : Int))
def hAsks (h : Hd) (n : Int) : Bool := !(n == h.v.self) && !has h.v.act n && !has h.asked n && sAddOk h.asked 64 n
def hAsk (h : Hd) (n : Int) (high : Bool) : Hd × List Ho :=
  if hAsks h n = true then (⟨h.v, sAdd h.asked 64 n⟩, [⟨n, 3, high⟩]) else (h, [])
/-- whom a full view evicts, and the numbers that are left -/
def hEv (h : Hd) (ds : List Int) : Vw × Int × Bool × List Int := if vaFull h.v = true then vEvict h.v ds else (h.v, 0, false, ds)
def hEvs (h : Hd) (n : Int) (ds : List Int) : Bool := (hEv h ds).2.2.1 && !(n == h.v.self)
def hRoomV (h : Hd) (n : Int) (ds : List Int) : Vw := if hEvs h n ds = true then (hEv h ds).1 else h.v
def hRoomA (h : Hd) (n : Int) (ds : List Int) : List Int := if hEvs h n ds = true then sDrop h.asked (hEv h ds).2.1 else h.asked
def hRoomO (h : Hd) (n : Int) (ds : List Int) : List Ho := if hEvs h n ds = true then [⟨(hEv h ds).2.1, 6, false⟩] else []
def hTake (h : Hd) (n : Int) (ds : List Int) : Hd × List Ho × Bool × List Int :=
  if has h.v.act n = true then (h, [], true, ds) else
    if vJoinOk (hRoomV h n ds) n = true then (⟨vJoin (hRoomV h n ds) n, hRoomA h n ds⟩, hRoomO h n ds, true, (hEv h ds).2.2.2) else (h, [], false, (hEv h ds).2.2.2)
def hMay (h : Hd) (n : Int) (high : Bool) : Bool := decide (1 ≤ n) && decide (n ≤ 65535) && !(n == h.v.self) && (high || !vaFull h.v)
def hOnAsk (h : Hd) (n : Int) (high : Bool) (ds : List Int) : Hd × List Ho × List Int :=
  if has h.v.act n = true then (h, [⟨n, 4, false⟩], ds) else
    if hMay h n high = true then
      (if (hTake h n ds).2.2.1 = true then ((hTake h n ds).1, (hTake h n ds).2.1 ++ [⟨n, 4, false⟩], (hTake h n ds).2.2.2) else (h, [⟨n, 5, false⟩], (hTake h n ds).2.2.2))
    else (h, [⟨n, 5, false⟩], ds)
def hOnYes (h : Hd) (n : Int) (ds : List Int) : Hd × List Ho × List Int :=
  if has h.asked n = true then ((hTake ⟨h.v, sDrop h.asked n⟩ n ds).1, (hTake ⟨h.v, sDrop h.asked n⟩ n ds).2.1, (hTake ⟨h.v, sDrop h.asked n⟩ n ds).2.2.2) else
    if has h.v.act n = true then (h, [], ds) else (h, [⟨n, 6, false⟩], ds)
def hOnBye (h : Hd) (n : Int) (ds : List Int) : Hd × List Int := (⟨(vLeave h.v n true ds).1, h.asked⟩, (vLeave h.v n true ds).2.2)
def hOnNo (h : Hd) (n : Int) (ds : List Int) : Hd × List Ho × List Int :=
  if has h.v.act n = true then ((hOnBye ⟨h.v, sDrop h.asked n⟩ n ds).1, [⟨n, 6, false⟩], (hOnBye ⟨h.v, sDrop h.asked n⟩ n ds).2) else (⟨h.v, sDrop h.asked n⟩, [], ds)
def hOnBreak (h : Hd) (n : Int) : Hd := ⟨vForget (vLeave h.v n false []).1 n, sDrop h.asked n⟩
end
end Go.Proofs.Ytelepohdfcjnfaa
