/-
  Package bellhopref03: Sorted.
-/
import Derived.Test.YtelepohdfcjnfaaZSetRef
import Derived.Test.YtelepohdfcjnfaaZSet
import Derived.Test.YtelepohdfcjnfaaZOwn
namespace Go.Proofs.Ytelepohdfcjnfaa
open Go.RowKit Go.Proofs

def RowIs (w : World) (g cap : Nat) (c : List Int) : Prop := ∃ cs, w.heap[g]? = some (.cells cs 3 (0, 0)) ∧ cs.size = cap ∧ ∀ (t : Nat) (y : Int), c[t]? = some y → cs[t]? = some (.int .i64 y)
theorem RowIs.cell {w : World} {g cap : Nat} {c : List Int} (h : RowIs w g cap c) (t : Nat) (ht : t < c.length) : w.cell? ⟨g, t, none⟩ = some (.int .i64 c[t]) := by
  obtain ⟨cs, h1, _, h3⟩ := h
  rw [Lib.cell_of_heap h1]; exact h3 t _ (List.getElem?_eq_getElem ht)
theorem RowIs.frozen {w : World} {g cap : Nat} {c : List Int} (h : RowIs w g cap c) (t : Nat) : w.frozen? ⟨g, t, none⟩ = false := by
  obtain ⟨cs, h1, _⟩ := h
  exact Lib.frozen_of_heap h1 t
theorem RowIs.drewN {w : World} {g cap : Nat} {c : List Int} (h : RowIs w g cap c) (q : Nat) : RowIs (w.drewN q) g cap c := h
theorem RowIs.set {w : World} {g cap : Nat} {c : List Int} (h : RowIs w g cap c) (hc : c.length ≤ cap) (i : Nat) (x : Int) : RowIs (w.setCell ⟨g, i, none⟩ (.int .i64 x)) g cap (c.set i x) := by
  obtain ⟨cs, h1, h2, h3⟩ := h
  refine ⟨_, blk_set1 h1 i _, by simpa using h2, fun t y ht => ?_⟩
  rw [List.getElem?_set] at ht
  split at ht
  · rename_i e
    subst e
    split at ht
    · cases ht
      have : i < cs.size := by omega
      simp [this]
    · cases ht
  · rename_i e
    rw [Array.getElem?_setIfInBounds_ne e]; exact h3 t y ht
theorem RowIs.sla {w : World} {g cap : Nat} {c : List Int} (h : RowIs w g cap c) (hc : c.length ≤ cap) (hm : cap ≤ maxLen) : SlA w (some ⟨g, 0, none⟩) c.length cap (ints c) := by
  obtain ⟨cs, h1, h2, h3⟩ := h
  exact sla_blk h1 h3 hc hm

/-- rising up to place n, but for the one at place j -/
def RiseBut (c : List Int) (n j : Nat) : Prop := ∀ (x y : Nat) (u v : Int), x < y → y ≤ n → y ≠ j → c[x]? = some u → c[y]? = some v → u ≤ v
def swp (c : List Int) (i j : Nat) : List Int := (c.set i (c.getD j 0)).set j (c.getD i 0)

theorem swp_get (c : List Int) (j : Nat) (hj : j + 1 < c.length) (t : Nat) : (swp c j (j + 1))[t]? = if t = j then c[j + 1]? else if t = j + 1 then c[j]? else c[t]? := by
  unfold swp
  rw [List.getElem?_set, List.getElem?_set]
  have h1 : c[j]? = some (c.getD j 0) := by rw [List.getD_eq_getElem?_getD, List.getElem?_eq_getElem (by omega)]; rfl
  have h2 : c[j + 1]? = some (c.getD (j + 1) 0) := by rw [List.getD_eq_getElem?_getD, List.getElem?_eq_getElem (by omega)]; rfl
  by_cases e1 : t = j
  · subst e1
    rw [if_neg (by omega), if_pos rfl, if_pos (by omega), if_pos rfl, h2]
  · by_cases e2 : t = j + 1
    · subst e2
      rw [if_pos rfl, if_pos (by simpa using hj), if_neg (by omega), if_pos rfl, h1]
    · rw [if_neg (by omega), if_neg (by omega), if_neg e1, if_neg e2]
theorem swp_length (c : List Int) (i j : Nat) : (swp c i j).length = c.length := by simp [swp]
theorem swp_perm (c : List Int) (j : Nat) (hj : j + 1 < c.length) : (swp c j (j + 1)).Perm c := by
  have := List.set_set_perm (show j < c.length by omega) hj
  unfold swp
  rw [List.getD_eq_getElem?_getD, List.getD_eq_getElem?_getD, List.getElem?_eq_getElem hj, List.getElem?_eq_getElem (show j < c.length by omega)]
  exact this

theorem rise_swp {c : List Int} {n j : Nat} (h : RiseBut c n (j + 1)) (hn : n < c.length) (hj : j + 1 ≤ n) (hlt : c.getD (j + 1) 0 < c.getD j 0) : RiseBut (swp c j (j + 1)) n j := by
  intro x y u v hxy hyn hyj hu hv
  have h1 : c[j]? = some (c.getD j 0) := by rw [List.getD_eq_getElem?_getD, List.getElem?_eq_getElem (by omega)]; rfl
  have h2 : c[j + 1]? = some (c.getD (j + 1) 0) := by rw [List.getD_eq_getElem?_getD, List.getElem?_eq_getElem (by omega)]; rfl
  rw [swp_get c j (by omega)] at hu hv
  rw [if_neg hyj] at hv
  by_cases e1 : y = j + 1
  · subst e1
    rw [if_pos rfl, h1] at hv
    cases hv
    by_cases e2 : x = j
    · subst e2
      rw [if_pos rfl, h2] at hu
      cases hu; omega
    · rw [if_neg e2, if_neg (by omega)] at hu
      exact h x j u _ (by omega) (by omega) (by omega) hu h1
  · rw [if_neg e1] at hv
    by_cases e2 : x = j
    · subst e2
      rw [if_pos rfl] at hu
      exact h (x + 1) y u v (by omega) hyn e1 hu hv
    · rw [if_neg e2] at hu
      by_cases e3 : x = j + 1
      · subst e3
        rw [if_pos rfl] at hu
        exact h j y u v (by omega) hyn e1 hu hv
      · rw [if_neg e3] at hu
        exact h x y u v hxy hyn e1 hu hv

/-- rising in the first n places -/
def RiseTo (c : List Int) (n : Nat) : Prop := ∀ (x y : Nat) (u v : Int), x < y → y < n → c[x]? = some u → c[y]? = some v → u ≤ v
theorem rise_start {c : List Int} {n : Nat} (h : RiseTo c n) : RiseBut c n n := fun x y u v hxy hy hne => h x y u v hxy (by omega)
theorem rise_zero {c : List Int} {n : Nat} (h : RiseBut c n 0) : RiseTo c (n + 1) := fun x y u v hxy hy => h x y u v hxy (by omega) (by omega)
theorem rise_stop {c : List Int} {n j : Nat} (h : RiseBut c n (j + 1)) (hn : n < c.length) (hj : j + 1 ≤ n) (hle : c.getD j 0 ≤ c.getD (j + 1) 0) : RiseTo c (n + 1) := by
  intro x y u v hxy hyn hu hv
  have h1 : c[j]? = some (c.getD j 0) := by rw [List.getD_eq_getElem?_getD, List.getElem?_eq_getElem (by omega)]; rfl
  have h2 : c[j + 1]? = some (c.getD (j + 1) 0) := by rw [List.getD_eq_getElem?_getD, List.getElem?_eq_getElem (by omega)]; rfl
  by_cases e : y = j + 1
  · subst e
    rw [h2] at hv; cases hv
    by_cases e2 : x = j
    · subst e2; rw [h1] at hu; cases hu; exact hle
    · have := h x j u _ (by omega) (by omega) (by omega) hu h1
      omega
  · exact h x y u v hxy (by omega) e hu hv
theorem rise_all {c t : List Int} (h : RiseTo c c.length) (hp : c.Perm t) (ht : t.Pairwise (· ≤ ·)) : c = t := by
  refine hp.eq_of_pairwise (le := (· ≤ ·)) (fun a b _ _ => Int.le_antisymm) ?_ ht
  rw [List.pairwise_iff_getElem]
  intro i j hi hj hij
  exact h i j _ _ hij hj (List.getElem?_eq_getElem hi) (List.getElem?_eq_getElem hj)

theorem own_empty (w : World) (B : Nat) (e : TypeId) (hB : B ≤ w.heap.size) : (w.alloc (.cells #[] e)).ownsRow B e 1 (.slice (some ⟨w.heap.size, 0, none⟩) 0 0) 0 [] :=
  ⟨rfl, .inr ⟨w.heap.size, 0, #[], rfl, hB, by rw [heap_alloc_if', if_pos rfl], Nat.le_refl _, by simp [maxLen], rfl, rfl⟩⟩

set_option maxHeartbeats 2000000 in
set_option maxRecDepth 100000 in
theorem refSorted_nil (w : World) :
    Calls Try.prog 67 #[.slice none 0 0] w (RowOut [] w) := by
  go_enter Try.func67, Try.ntmps67
  go_wp2_with fail
  go_loopw [4, 5] (fun iv _ wr => ∃ (i : Nat), iv = .int .i64 i ∧ 1 ≤ i ∧ Gr w wr) (fun iv _ _ => 0)
  case atStart => exact ⟨1, rfl, Nat.le_refl _, (Fr.refl _ _).alloc _⟩
  case round =>
    obtain ⟨i, rfl, hi, hf⟩ := hrel
    have hlt : decide ((i : Int) < 0) = false := by simp
    have HF := Lib.hid hf; clear hf
    go_wp2_with fail
    go_ret
    exact ⟨_, _, rfl, ⟨Nat.le_refl _, by simp, fun j u h => by simp at h⟩, HF.out⟩

set_option maxHeartbeats 2000000 in
set_option maxRecDepth 100000 in
theorem refSorted_any (b o cap : Nat) (l t : List Int) (w : World) (h : SlA w (some ⟨b, o, none⟩) l.length cap (ints l)) (hp : t.Perm l) (ht : t.Pairwise (· ≤ ·)) (hn : l.length ≤ 4294967296) :
    Calls Try.prog 67 #[.slice (some ⟨b, o, none⟩) l.length cap] w (RowOut t w) := by
  obtain ⟨i0, hi, hz0, hz1, hz2⟩ := info_parts Try.infoint
  have hle := h.le
  have hmx := h.max
  have H := Lib.hid h; clear h
  have HP := Lib.hid hp; clear hp
  have HT := Lib.hid ht; clear ht
  go_enter Try.func67, Try.ntmps67
  go_wp2_with (at_builtin; refine wpList_append_own _ rfl _ _ 25 rfl w.heap.size 3 i0 (.int .i64 0) 1 8 Try.underlying25 hi hz0 hz1 hz2 rfl (by decide) _ _ _ rfl (own_empty w _ _ (Nat.le_refl _)) ⟨b, o, none⟩ l.length cap (ints l) rfl (by simp) ?c1 (one_map _ l (fun _ => rfl)) (by unfold maxLen; omega) (by omega) (by simp) ?_)
  case c1 =>
    intro j u hj
    obtain ⟨b', o', e, hc⟩ := H.out.cell j u hj
    cases e
    rw [Addr.add_lit]
    rw [World.cell?_alloc_old _ _ _ (Nat.ne_of_lt (lt_of_cell hc))]; exact hc
  intro v1 w1 hown1 hgrow1 hiff
  have hfr1 : Gr w w1 := ((Fr.refl (fun _ => False) w).alloc _).grown hgrow1 (fun q hq => .inr (by simp [Value.ownBlock] at hq; omega))
  obtain ⟨hl, ⟨h', _⟩ | ⟨g, cap1, cur, rfl, hB, hg, hnc, hcm, hcs, htk⟩⟩ := hown1
  · exact absurd h' hiff
  have hrow : RowIs w1 g cap1 l := by
    refine ⟨cur, hg, by omega, fun j y hj => ?_⟩
    have hj' := (List.getElem?_eq_some_iff.1 hj).1
    have h1 : (cur.toList.take (l.length * 1))[j]? = (ints l)[j]? := by rw [htk]
    rw [List.getElem?_take, if_pos (by omega)] at h1
    simp only [ints, List.getElem?_map, hj, Option.map_some] at h1
    simpa using h1
  have hge := Lib.hid hB
  have F1 := Lib.hid hfr1
  clear hl hg hcs htk hiff hgrow1 hB hfr1
  go_wp2_with fail
  go_loopw [4, 5] (fun iv _ wr => ∃ (i : Nat) (c : List Int), iv = .int .i64 i ∧ 1 ≤ i ∧ (i ≤ l.length ∨ i = 1) ∧ c.length = l.length ∧ c.Perm l ∧ RiseTo c i ∧ RowIs wr g cap1 c ∧ Fr (fun k => k = g) w1 wr) (fun iv _ _ => l.length - (intOf iv).toNat)
  case atStart => exact ⟨1, l, rfl, Nat.le_refl _, .inr rfl, rfl, List.Perm.refl _, fun x y u v h1 h2 _ _ => by omega, hrow, Fr.refl _ _⟩
  case round =>
    obtain ⟨i, c, rfl, hi1, hi2, hcl, hcp, hct, hcr, hcf⟩ := hrel
    clear hrow
    have HCP := Lib.hid hcp; clear hcp
    have HCR := Lib.hid hcr; clear hcr
    have HCF := Lib.hid hcf; clear hcf
    have HCT := Lib.hid hct; clear hct
    by_cases hil : i < l.length
    · go_wp2_with fail
      go_loopw [5] (fun jv wr2 => ∃ (j : Nat) (c : List Int), jv = .int .i64 j ∧ j ≤ i ∧ c.length = l.length ∧ c.Perm l ∧ RiseBut c i j ∧ RowIs wr2 g cap1 c ∧ Fr (fun k => k = g) w1 wr2) (fun jv _ => (intOf jv).toNat)
      case atStart => exact ⟨i, c, rfl, Nat.le_refl _, hcl, HCP.out, rise_start HCT.out, HCR.out, HCF.out⟩
      case round =>
        clear HCP HCR HCF HCT hcl
        clear c
        obtain ⟨j, c, rfl, hj, hcl, hcp, hct, hcr, hcf⟩ := hrel
        have HCP := Lib.hid hcp; clear hcp
        have HCR := Lib.hid hcr; clear hcr
        have HCF := Lib.hid hcf; clear hcf
        have HCT := Lib.hid hct; clear hct
        cases j with
        | zero =>
          go_wp2_with fail
          go_quiet (fail)
          go_wp2_with fail
          go_roundw
          case rel => exact ⟨i + 1, c, by go_num, by omega, by omega, hcl, HCP.out, rise_zero HCT.out, HCR.out.drewN _, HCF.out.drewN _⟩
          case measure => simp [intOf]; omega
        | succ j =>
          have hc1 := HCR.out.cell j (by omega)
          have hc2 := HCR.out.cell (j + 1) (by omega)
          have hz1 := HCR.out.frozen j
          have hz2 := HCR.out.frozen (j + 1)
          have hg1 : c.getD j 0 = c[j] := by rw [List.getD_eq_getElem?_getD, List.getElem?_eq_getElem (by omega)]; rfl
          have hg2 : c.getD (j + 1) 0 = c[j + 1] := by rw [List.getD_eq_getElem?_getD, List.getElem?_eq_getElem (by omega)]; rfl
          have HG1 := Lib.hid hg1; clear hg1
          have HG2 := Lib.hid hg2; clear hg2
          by_cases hlt : c[j + 1] < c[j]
          · go_wp2_with fail
            go_quiet (fail)
            go_wp2_with fail
            go_region
            have hsw : (c.set j c[j + 1]).set (j + 1) c[j] = swp c j (j + 1) := by unfold swp; rw [HG1.out, HG2.out]
            have hrw := ((HCR.out.drewN (nq + 1)).set (by omega) j c[j + 1]).set (by simp; omega) (j + 1) c[j]
            rw [hsw] at hrw
            have HRW := Lib.hid hrw; clear hrw hsw
            have HFW : Hid (Fr (fun k => k = g) w1 (((wr.drewN (nq + 1)).setCell ⟨g, j, none⟩ (.int .i64 c[j + 1])).setCell ⟨g, j + 1, none⟩ (.int .i64 c[j]))) := Lib.hid (((HCF.out.drewN (nq + 1)).setCell (p := ⟨g, j, none⟩) (.inl rfl) _).setCell (p := ⟨g, j + 1, none⟩) (.inl rfl) _)
            have HSW := Lib.hid (rise_swp HCT.out (by omega) hj (by rw [HG1.out, HG2.out]; exact hlt))
            have HPW := Lib.hid ((swp_perm c j (by omega)).trans HCP.out)
            clear hc1 hc2 hz1 hz2 HG1 HG2
            go_wp2_with fail
            go_roundw
            case rel => exact ⟨j, _, by go_num, by omega, by rw [swp_length]; exact hcl, HPW.out, HSW.out, HRW.out, HFW.out⟩
            case measure => simp [intOf]
          · go_wp2_with fail
            go_quiet (fail)
            go_wp2_with fail
            go_roundw
            case rel => exact ⟨i + 1, c, by go_num, by omega, by omega, hcl, HCP.out, rise_stop HCT.out (by omega) hj (by rw [HG1.out, HG2.out]; omega), HCR.out.drewN _, HCF.out.drewN _⟩
            case measure => simp [intOf]; omega
    · have hct : c = t := by
        have h1 := HCT.out
        refine rise_all (fun x y u v h2 h3 => h1 x y u v h2 (by omega)) (HCP.out.trans HP.out.symm) HT.out
      subst hct
      have hs := HCR.out.sla (by omega) hcm
      have HS := Lib.hid hs; clear hs
      have HW : Hid (Gr w wr) := Lib.hid (Fr.trans F1.out HCF.out (fun k h => .inr (by have : k = g := h; subst this; exact hge.out)))
      go_wp2_with fail
      go_ret
      exact ⟨_, _, by rw [hcl]; rfl, HS.out, HW.out⟩

theorem refSorted_own (B : Nat) (v : Value) (l t : List Int) (w : World) (h : w.ownsRow B 3 1 v l.length (ints l)) (hp : t.Perm l) (ht : t.Pairwise (· ≤ ·)) (hn : l.length ≤ 4294967296) :
    Calls Try.prog 67 #[v] w (RowOut t w) := by
  obtain ⟨a, c, hv, hs, hb, _⟩ := SlA.of_own h
  obtain ⟨hl, ⟨h', hl0⟩ | ⟨g, cap1, cur, h', hB, hg, hnc, hcm, hcs, htk⟩⟩ := h
  · subst h'
    have hl1 : l = [] := List.eq_nil_of_length_eq_zero hl0
    subst hl1
    obtain rfl : t = [] := List.perm_nil.1 hp
    exact refSorted_nil w
  · rw [h'] at hv ⊢
    simp only [Value.slice.injEq, true_and] at hv
    obtain ⟨rfl, rfl⟩ := hv
    exact refSorted_any g 0 cap1 l t w hs hp ht hn
end Go.Proofs.Ytelepohdfcjnfaa
