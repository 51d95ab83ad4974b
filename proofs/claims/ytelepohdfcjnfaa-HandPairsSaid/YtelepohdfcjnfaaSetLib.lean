/-
  slices.BinarySearch, Insert, Index, Contains, IndexFunc, DeleteFunc at []int.
-/
import Derived.Test.YtelepohdfcjnfaaOwn
import Derived.Test.YtelepohdfcjnfaaSlcInt
namespace Go.Proofs.Ytelepohdfcjnfaa
open Go.RowKit Go.Proofs

abbrev ints (l : List Int) : List Value := l.map (Value.int .i64)

theorem SlA.int {w : World} {a : Option Addr} {cap : Nat} {l : List Int} (h : SlA w a l.length cap (ints l)) (i : Nat) (hi : i < l.length) : ∃ b o, a = some ⟨b, o, none⟩ ∧ w.cell? ⟨b, o + i, none⟩ = some (.int .i64 l[i]) :=
  h.cell i _ (by simp [ints, hi])

/-- how many are less; is it there: plain words that a walk does not open -/
def cnt (l : List Int) (x : Int) : Nat := l.countP (· < x)
def has (l : List Int) (x : Int) : Bool := l.contains x
theorem has_iff (l : List Int) (x : Int) : has l x = true ↔ x ∈ l := List.contains_iff_mem
theorem has_no (l : List Int) (x : Int) : has l x = false ↔ x ∉ l := by rw [← has_iff]; cases has l x <;> simp

theorem bsearch_any (a : Option Addr) (cap : Nat) (l : List Int) (x : Int) (w : World) (h : SlA w a l.length cap (ints l)) (hs : l.Pairwise (· ≤ ·)) (hn : l.length ≤ 4611686018427387903) :
    Calls Try.prog 50 #[.slice a l.length cap, .int .i64 x] w fun e w' => e = .returned (.tuple #[.int .i64 (cnt l x : Nat), .bool (has l x)]) ∧ ∃ q, w' = w.drewN q := by
  unfold cnt has
  cases l with
  | nil =>
    refine (Try.slices_BinarySearch_int_empty a cap x w).mono ?_
    rintro e w' ⟨rfl, rfl⟩
    exact ⟨rfl, 0, rfl⟩
  | cons y r =>
    obtain ⟨b, o, rfl, _⟩ := h.int 0 (by simp)
    have hc : ∀ j, j < (y :: r).length → w.cell? ⟨b, o + j, none⟩ = some (.int .i64 ((y :: r).getD j 0)) := fun j hj => by
      obtain ⟨b', o', he, hc⟩ := h.int j hj
      cases he
      rw [hc]; simp [List.getD, List.getElem?_eq_getElem hj]
    refine (Try.slices_BinarySearch_int b o _ cap (y :: r) x w (Nat.le_refl _) (by omega) hc (by rw [List.take_length]; exact hs)).mono ?_
    rw [List.take_length]
    exact fun e w' h => h

theorem sla_blk {w : World} {g m cap : Nat} {c : Array Value} {e : TypeId} {fr : Nat × Nat} {l : List Int} (h : w.heap[g]? = some (.cells c e fr)) (hc : ∀ (j : Nat) (x : Int), l[j]? = some x → c[j]? = some (Value.int .i64 x)) (hm : m ≤ cap) (hcap : cap ≤ maxLen) : SlA w (some ⟨g, 0, none⟩) m cap (ints l) := by
  refine ⟨hm, hcap, fun j u hj => ⟨_, _, rfl, ?_⟩⟩
  rw [Lib.cell_of_heap h, Nat.zero_add]
  simp only [ints, List.getElem?_map, Option.map_eq_some_iff] at hj
  obtain ⟨x, hx, rfl⟩ := hj
  exact hc j x hx

def insAt (l : List Int) (i : Nat) (x : Int) : List Int := l.take i ++ x :: l.drop i
theorem insAt_length (l : List Int) (i : Nat) (x : Int) (hi : i ≤ l.length) : (insAt l i x).length = l.length + 1 := by simp [insAt]; omega
theorem insAt_get (l : List Int) (i : Nat) (x : Int) (hi : i ≤ l.length) (j : Nat) : (insAt l i x)[j]? = if j < i then l[j]? else if j = i then some x else l[j - 1]? := by
  unfold insAt
  rcases Nat.lt_trichotomy j i with h | h | h
  · rw [if_pos h, List.getElem?_append_left (by simp; omega), List.getElem?_take, if_pos h]
  · subst h
    rw [if_neg (by omega), if_pos rfl, List.getElem?_append_right (by simp; omega)]
    simp [Nat.min_eq_left hi]
  · rw [if_neg (by omega), if_neg (by omega), List.getElem?_append_right (by simp; omega)]
    simp only [List.length_take, Nat.min_eq_left hi]
    obtain ⟨d, hd⟩ : ∃ d, j - i = d + 1 := ⟨j - i - 1, by omega⟩
    rw [hd, List.getElem?_cons_succ, List.getElem?_drop, show i + d = j - 1 by omega]

theorem heap_alloc_last (w : World) (o : Obj) : (w.drew.alloc o).heap[w.heap.size]? = some o := by
  show (w.heap.push o)[w.heap.size]? = some o
  simp

/-- slices.Insert of one element into a row that the call owns -/
theorem insert_own (B : Nat) (v : Value) (l : List Int) (i vb : Nat) (x : Int) (z : Int) (hz : z = i) (w : World) (h : w.ownsRow B 3 1 v l.length (ints l)) (hv : w.heap[vb]? = some (.cells #[.int .i64 x] 3 (0, 0))) (hne : v.ownBlock ≠ some vb) (hi : i ≤ l.length) (hn : l.length ≤ 4294967296) :
    Calls Try.prog 72 #[v, .int .i64 z, .slice (some ⟨vb, 0, none⟩) 1 1] w fun e w' => ∃ a cap, e = .returned (.slice a (l.length + 1) cap) ∧ SlA w' a (l.length + 1) cap (ints (insAt l i x)) ∧ Fr (fun k => v.ownBlock = some k) w w' ∧ (∀ p, a = some p → v.ownBlock = some p.block ∨ w.heap.size ≤ p.block) := by
  subst hz
  have hins := insAt_get l i x hi
  have hvs : ∀ (j : Nat) (u : Value), [Value.int .i64 x][j]? = some u → w.cell? ⟨vb, 0 + j, none⟩ = some u := by
    intro j u hj
    match j, hj with
    | 0, hj => rw [Lib.cell_of_heap hv]; simpa using hj
  have h1v : ∀ u ∈ [Value.int .i64 x], u.oneCell' = true := one_one _ rfl
  have h1c : ∀ u ∈ ints l, u.oneCell' = true := one_map _ l (fun _ => rfl)
  obtain ⟨hl, h' | ⟨g, cap, cur, rfl, hB, hg, hnc, hcm, hcs, ht⟩⟩ := id h
  · obtain ⟨rfl, hl0⟩ := h'
    have hl0' : l = [] := List.eq_nil_of_length_eq_zero hl0
    subst hl0'
    obtain rfl : i = 0 := by simpa using hi
    refine (Any2.slices_Insert_int_end_grow Try.laysNm221 none 0 0 vb 0 1 1 [] [.int .i64 x] w (by omega) (by omega) (by omega) (by omega) rfl rfl (fun _ => rfl) (by intro a ha; cases ha) hvs h1v).mono ?_
    rintro e w' ⟨rfl, rfl⟩
    have hge := grownCap_ge w (0 + 1) 0 3
    have hle := grownCap_le_maxLen w (0 + 1) 0 3 (by unfold maxLen; omega)
    refine ⟨_, _, rfl, sla_blk (heap_alloc_last w _) (fun j y hj => ?_) hge hle, (Fr.refl _ _).drew.alloc _, by intro p hp; cases hp; first | exact .inl rfl | exact .inr (Nat.le_refl _)⟩
    rw [hins, if_neg (by omega)] at hj
    by_cases h0 : j = 0
    · subst h0
      simp at hj; subst hj
      rw [Array.getElem?_append_left (by simp)]; rfl
    · rw [if_neg h0] at hj; simp at hj
  · have hcur : ∀ (j : Nat) (y : Int), l[j]? = some y → cur[j]? = some (.int .i64 y) := by
      intro j y hj
      have hj' : j < l.length := (List.getElem?_eq_some_iff.1 hj).1
      have h1 : (cur.toList.take (l.length * 1))[j]? = (ints l)[j]? := by rw [ht]
      rw [List.getElem?_take, if_pos (by omega)] at h1
      simp only [ints, List.getElem?_map, hj, Option.map_some] at h1
      simpa using h1
    have hcells : ∀ (j : Nat) (u : Value), (ints l)[j]? = some u → w.cell? ⟨g, 0 + j, none⟩ = some u := by
      intro j u hj
      simp only [ints, List.getElem?_map, Option.map_eq_some_iff] at hj
      obtain ⟨y, hy, rfl⟩ := hj
      rw [Lib.cell_of_heap hg, Nat.zero_add, hcur j y hy]
    have hne' : vb ≠ g := fun e => hne (by simp [Value.ownBlock, e])
    by_cases hroom : l.length + 1 ≤ cap
    · by_cases hil : i = l.length
      · subst hil
        refine (Any2.slices_Insert_int_end_room Try.laysNm221 g 0 l.length cap vb 0 1 1 [.int .i64 x] w (by omega) hroom hcm rfl
          (fun j hj => by rw [Lib.cell_of_heap hg]; simp; omega) (fun j hj => Lib.frozen_of_heap hg _) hvs h1v).mono ?_
        rintro e w' ⟨rfl, rfl⟩
        obtain ⟨c', g1, g2, g3, g4, g5⟩ := heap_setCells g [.int .i64 x] (0 + l.length) w cur 3 (0, 0) hg (by simp; omega)
        refine ⟨_, _, rfl, sla_blk g1 (fun j y hj => ?_) hroom hcm, (fr_setCells g _ _ w).mono (fun k _ hk => by simp [Value.ownBlock, show k = g from hk]), by intro p hp; cases hp; first | exact .inl rfl | exact .inr (Nat.le_refl _)⟩
        rw [hins] at hj
        by_cases hjl : j < l.length
        · rw [if_pos hjl] at hj
          rw [g3 j (by omega)]; exact hcur j y hj
        · rw [if_neg hjl] at hj
          by_cases hje : j = l.length
          · rw [if_pos hje] at hj
            have := g4 0 _ rfl
            subst hje
            simp at hj this
            rw [this, hj]
          · rw [if_neg hje, List.getElem?_eq_none (by omega)] at hj; cases hj
      · have hil' : i < l.length := by omega
        refine (Any2.slices_Insert_int_shift Try.laysNm221 g 0 l.length cap i vb 0 1 1 (ints l) [.int .i64 x] w hil' (by omega) hroom hcm hne' (by simp) rfl hcells
          (fun j hj => by rw [Lib.cell_of_heap hg]; simp; omega) (fun j hj => Lib.frozen_of_heap hg _) hvs h1c h1v 3 3 1 cap (by simp [World.shape?, hv]) (by simp [World.shape?, hg]; omega) (by omega) (Lib.frozen_of_heap hv _) (Lib.frozen_of_heap hv _)).mono ?_
        rintro e w' ⟨rfl, rfl⟩
        obtain ⟨c', g1, g2, g3, g4, g5⟩ := heap_setCells g ((ints l).drop i) (0 + (i + 1)) w.drew cur 3 (0, 0) hg (by simp; omega)
        obtain ⟨c2, k1, k2, k3, k4, k5⟩ := heap_setCells g [.int .i64 x] (0 + i) _ c' 3 (0, 0) g1 (by simp; omega)
        refine ⟨_, _, rfl, sla_blk k1 (fun j y hj => ?_) hroom hcm, (((Fr.refl _ w).drew.trans (fr_setCells g _ _ w.drew) (fun _ h => .inl h)).trans (fr_setCells g _ _ _) (fun _ h => .inl h)).mono (fun k _ hk => by simp [Value.ownBlock, show k = g from hk]), by intro p hp; cases hp; first | exact .inl rfl | exact .inr (Nat.le_refl _)⟩
        rw [hins] at hj
        rcases Nat.lt_trichotomy j i with h1 | h1 | h1
        · rw [if_pos h1] at hj
          rw [k3 j (by omega), g3 j (by omega)]; exact hcur j y hj
        · subst h1
          rw [if_neg (by omega), if_pos rfl] at hj
          have := k4 0 _ rfl
          simp at this hj
          rw [this, hj]
        · rw [if_neg (by omega), if_neg (by omega)] at hj
          rw [k5 j (by simp; omega)]
          have h2 := g4 (j - (i + 1)) (.int .i64 y) (by
            rw [List.getElem?_drop, show i + (j - (i + 1)) = j - 1 by omega]
            simp [ints, hj])
          rwa [show 0 + (i + 1) + (j - (i + 1)) = j by omega] at h2
    · have hge := grownCap_ge w (l.length + 1) cap 3
      have hle := grownCap_le_maxLen w (l.length + 1) cap 3 (by unfold maxLen; omega)
      by_cases hil : i = l.length
      · subst hil
        refine (Any2.slices_Insert_int_end_grow Try.laysNm221 (some ⟨g, 0, none⟩) l.length cap vb 0 1 1 (ints l) [.int .i64 x] w (by omega) hnc (by omega) (by omega) (by simp) rfl (by intro h; cases h)
          (by intro a ha j u hj; cases ha; rw [Addr.add_lit]; exact hcells j u hj) hvs h1v).mono ?_
        rintro e w' ⟨rfl, rfl⟩
        refine ⟨_, _, rfl, sla_blk (heap_alloc_last w _) (fun j y hj => ?_) hge hle, (Fr.refl _ _).drew.alloc _, by intro p hp; cases hp; first | exact .inl rfl | exact .inr (Nat.le_refl _)⟩
        have hj' := (List.getElem?_eq_some_iff.1 hj).1
        rw [insAt_length _ _ _ hi] at hj'
        rw [Array.getElem?_append_left (by simp; omega)]
        rw [hins] at hj
        by_cases hjl : j < l.length
        · rw [if_pos hjl] at hj
          simp [ints, List.getElem?_append_left, hjl]
          simpa [hjl] using hj
        · obtain rfl : j = l.length := by omega
          rw [if_neg hjl, if_pos rfl] at hj
          simp at hj; subst hj
          simp [ints]
      · have hil' : i < l.length := by omega
        refine (Any2.slices_Insert_int_grow Try.laysNm221 g 0 l.length cap i vb 0 1 1 (ints l) [.int .i64 x] w hil' (by omega) hnc (by omega) (by omega) (by simp) rfl hcells hvs h1c h1v).mono ?_
        rintro e w' ⟨rfl, hw'⟩
        obtain ⟨cur0, hc0, h00⟩ : ∃ cur0 : Array Value, cur0 = ((ints l).take i).toArray ++ Builtin.zeroCells (Value.int .i64 0).cells (l.length + 1 - i) ++ Builtin.zeroCells (Value.int .i64 0).cells (grownCap w (l.length + 1) cap (Try.laysNm221_ren.t 3) - (l.length + 1)) ∧ l.length + 1 ≤ cur0.size := ⟨_, rfl, by simp [Builtin.zeroCells, show (Value.int .i64 0).cells.size = 1 from rfl]; omega⟩
        rw [← hc0] at hw'
        have hpre : ∀ j, j < i → cur0[j]? = (ints l)[j]? := by
          intro j hj
          rw [hc0, Array.append_assoc, Array.getElem?_append_left (by simp; omega)]
          simp [hj]
        clear hc0
        have hg0 : ((w.alloc (.cells cur0 (Try.laysNm221_ren.t 3))).drew).heap[w.heap.size]? = some (.cells cur0 3 (0, 0)) := by
          show (w.heap.push (.cells cur0 3))[w.heap.size]? = _
          simp
        obtain ⟨c1, g1, g2, g3, g4, g5⟩ := heap_setCells w.heap.size [.int .i64 x] i _ cur0 3 (0, 0) hg0 (by simp; omega)
        obtain ⟨c2, k1, k2, k3, k4, k5⟩ := heap_setCells w.heap.size ((ints l).drop i) (i + 1) (((w.alloc (.cells cur0 (Try.laysNm221_ren.t 3))).drew.setCells w.heap.size i [.int .i64 x]).drew) c1 3 (0, 0) g1 (by simp; omega)
        have hf0 : Fr (fun k => k = w.heap.size) w ((w.alloc (.cells cur0 (Try.laysNm221_ren.t 3))).drew) := ((Fr.refl _ w).alloc _).drew
        have hf1 := ((hf0.trans (fr_setCells w.heap.size [.int .i64 x] i _) (fun _ h => .inl h)).drew).trans (fr_setCells w.heap.size ((ints l).drop i) (i + 1) _) (fun _ h => .inl h)
        subst hw'
        refine ⟨_, _, rfl, sla_blk k1 (fun j y hj => ?_) hge hle, hf1.mono (fun k hk h => by have : k = w.heap.size := h; omega), by intro p hp; cases hp; first | exact .inl rfl | exact .inr (Nat.le_refl _)⟩
        rw [hins] at hj
        rcases Nat.lt_trichotomy j i with h1 | h1 | h1
        · rw [if_pos h1] at hj
          rw [k3 j (by omega), g3 j h1, hpre j h1]; simp [ints, hj]
        · subst h1
          rw [if_neg (by omega), if_pos rfl] at hj
          have := g4 0 _ rfl
          simp at this hj
          rw [k3 j (by omega), this, hj]
        · rw [if_neg (by omega), if_neg (by omega)] at hj
          have h2 := k4 (j - (i + 1)) (.int .i64 y) (by
            rw [List.getElem?_drop, show i + (j - (i + 1)) = j - 1 by omega]
            simp [ints, hj])
          rwa [show i + 1 + (j - (i + 1)) = j by omega] at h2
end Go.Proofs.Ytelepohdfcjnfaa
