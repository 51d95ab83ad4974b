/-
  A region that draws its order, walked in a given order, with effects that may end in a panic; and one whose last operation waits for all others.
-/
import Derived.Test.YtelepohdfcjnfaaRegionY
namespace Go.Proofs.Ytelepohdfcjnfaa
open Go.RowKit Go.Proofs

section
variable {P : Program} {ops : Array Oper} {C : World → Prop} {Q : Exit → Act → World → Prop} {eff pan : Nat → Bool}

def goO (ops : Array Oper) (ms : List (List Nat)) (E Pn : List Nat) : List Nat → Array Bool → Bool
  | [], listed => (Region.ready .any ops listed).isEmpty
  | k :: r, listed => (Region.ready .any ops listed).contains k && Region.free .any ops listed k &&
      (!E.contains k || (List.range ops.size).all fun j => j == k || listed.getD j true || !(E.contains j || Pn.contains k) || (ms.getD j []).contains k) &&
      goO ops ms E Pn r (listed.setIfInBounds k true)
def regO (ops : Array Oper) (E Pn ord : List Nat) : Bool := Region.noSelect ops && (ord.length == ops.size) && goO ops (masks ops) E Pn ord (Array.replicate ops.size false)

def wpO (P : Program) (ops : Array Oper) (C : World → Prop) (Q : Exit → Act → World → Prop) (eff pan : Nat → Bool) : List Nat → Act → World → Prop
  | [], a, w => Q .normal a w
  | k :: r, a, w => ∀ o, ops[k]? = some o → stepX P ops C Q eff pan k o (wpO P ops C Q eff pan r) a w

theorem wpAnyX_ord {E Pn : List Nat} (hs : Region.noSelect ops = true) (hQ : ∀ c (a : Act) w d v, Q (.panic c) (a.put d v) w → Q (.panic c) a w) (hQ' : ∀ c (a : Act) w d v, Q (.panic c) a w → Q (.panic c) (a.put d v) w) :
    ∀ (l : List Nat) (listed : Array Bool) (a : Act) (w : World), C w → RgClosed ops listed → goO ops (masks ops) E Pn l listed = true →
      wpO P ops C Q E.contains Pn.contains l a w → wpAnyX P ops C Q E.contains Pn.contains l.length listed a w
  | [], _, _, _, _, _, hB, h => ⟨by simpa [goO] using hB, h⟩
  | k :: l, listed, a, w, hC, hcl, hB, h => by
    simp only [goO, Bool.and_eq_true] at hB
    obtain ⟨⟨⟨hr, hf⟩, hE⟩, hB'⟩ := hB
    have hr : k ∈ Region.ready .any ops listed := by simpa using hr
    obtain ⟨_, o, h0, _⟩ := mem_ready.1 hr
    have hcl' := hcl.set hr
    have IH := fun a w hC => wpAnyX_ord hs hQ hQ' l (listed.setIfInBounds k true) a w hC hcl' hB'
    have h := h o h0
    cases he : E.contains k with
    | false =>
      have h' := h
      unfold stepX at h'
      simp only [he, Bool.false_eq_true, if_false] at h'
      obtain ⟨v, hy, hK⟩ := h'
      exact firstQ h0 he (Region.noSelect_spec hs) hQ l.length listed a w (Region.free_spec h0 hf) hr hy (IH _ _ hC hK)
    | true =>
      refine firstE h0 he (Region.noSelect_spec hs) hQ' l.length listed a w hC hcl (Region.free_spec h0 hf) ?_ hr ?_
      · intro j hjk hun hor hlt
        simp only [he, Bool.not_true, Bool.false_or, List.all_eq_true, List.mem_range] at hE
        have h1 := hE j hlt
        simp only [hun, Bool.or_false, Bool.or_eq_true, beq_iff_eq, Bool.not_eq_true', Bool.or_eq_false_iff] at h1
        rcases h1 with (h1 | h1) | h1
        · exact absurd h1 hjk
        · rcases hor with h2 | h2
          · rw [h1.1] at h2; cases h2
          · rw [h1.2] at h2; cases h2
        · refine masks_sound ops.toList 0 [] (by simp) rfl (fun j i h => by simp at h) j k ?_
          simpa [masks] using h1
      · unfold stepX at h ⊢
        simp only [he, if_true] at h ⊢
        split
        · rename_i hw
          simp only [hw, if_true] at h
          exact upon_imp (fun a w ⟨h1, h2⟩ => ⟨h1, IH _ _ h1 h2⟩) (fun _ _ h => h) (fun h => h) h
        · rename_i hw
          simp only [hw, Bool.false_eq_true, if_false] at h
          exact IH _ _ hC h

/-- THE WALK IN A GIVEN ORDER -/
def wpT (P : Program) (ops : Array Oper) (C : World → Prop) (Q : Exit → Act → World → Prop) (E Pn : List Nat) : List Nat → Act → World → Prop
  | [], a, w => Q .normal a w
  | k :: r, a, w => ∀ o, ops[k]? = some o →
    if E.contains k then wpList P ops (Exit.then (fun a' w' => C w' ∧ wpT P ops C Q E Pn r a' w') (QE fun c w' => Pn.contains k = true ∧ Q (.panic c) a w')) [o] a w
    else valKind o.op = true ∧ wpQuiet P ops C (fun a' => wpT P ops C Q E Pn r a' w) [o] a

section
variable {E Pn : List Nat} {a : Act} {w : World} {k : Nat} {o : Oper} {r : List Nat}
theorem wpT_nil (h : Q .normal a w) : wpT P ops C Q E Pn [] a w := h
theorem wpT_q (ho : ops[k]? = some o) (he : E.contains k = false) (hv : valKind o.op = true) (h : wpQuiet P ops C (fun a' => wpT P ops C Q E Pn r a' w) [o] a) : wpT P ops C Q E Pn (k :: r) a w := by
  intro o' ho'
  obtain rfl : o = o' := Option.some.inj (ho.symm.trans ho')
  rw [he]; exact ⟨hv, h⟩
theorem wpT_e (ho : ops[k]? = some o) (he : E.contains k = true) (h : wpList P ops (Exit.then (fun a' w' => C w' ∧ wpT P ops C Q E Pn r a' w') (QE fun c w' => Pn.contains k = true ∧ Q (.panic c) a w')) [o] a w) : wpT P ops C Q E Pn (k :: r) a w := by
  intro o' ho'
  obtain rfl : o = o' := Option.some.inj (ho.symm.trans ho')
  rw [he]; exact h
end

theorem wpO_of_T {E Pn : List Nat} : ∀ (l : List Nat) (a : Act) (w : World), C w → wpT P ops C Q E Pn l a w → wpO P ops C Q E.contains Pn.contains l a w
  | [], _, _, _, h => h
  | k :: l, a, w, hC, h => by
    intro o ho
    have h := h o ho
    simp only [stepX]
    cases he : E.contains k with
    | true =>
      simp only [he, if_true] at h ⊢
      simp only [wpList] at h
      split
      · rename_i hw
        simp only [hw, if_true] at h
        rcases h with h | ⟨_, a₀, w₀, h⟩
        · refine upon_imp (fun a' w' h' => ?_) (fun c w' h' => h') (fun ⟨a₀, w₀, h'⟩ => (h' : False).elim) h
          exact ⟨h'.1, wpO_of_T l a' w' h'.1 h'.2⟩
        · exact (h : False).elim
      · rename_i hw
        simp only [hw, Bool.false_eq_true, if_false] at h
        exact wpO_of_T l _ w h.1 h.2
    | false =>
      simp only [he, Bool.false_eq_true, if_false] at h ⊢
      obtain ⟨hv, h⟩ := h
      simp only [wpQuiet] at h
      split at h
      · rename_i hw
        obtain ⟨v, h1, h2⟩ := h
        refine ⟨v, .inl ⟨hw, fun w' hC' => ?_⟩, wpO_of_T l _ w hC h2⟩
        have h3 := h1 w' hC'
        unfold Oper.quietAt at h3
        cases hr : (execOp a.eval o).run P w' with
        | halt x w1 => rw [hr] at h3; exact (h3 : False).elim
        | ok n w1 =>
          obtain ⟨u, rfl⟩ := valKind_run hv hr
          rw [hr] at h3
          obtain ⟨rfl, rfl⟩ := h3
          rfl
      · rename_i hw
        exact ⟨undef, .inr ⟨by simpa using hw, rfl⟩, wpO_of_T l _ w hC h⟩

/-- A REGION THAT DRAWS ITS ORDER, in the order ord. -/
theorem wp_region_ord {id : Nat} {l : List Oper} (E Pn ord : List Nat) (C : World → Prop) {a : Act} {w : World} (hm : P.follows .mixedOrders = true) (hB : regO l.toArray E Pn ord = true)
    (hQ : ∀ c (a : Act) w d v, Q (.panic c) (a.put d v) w → Q (.panic c) a w) (hQ' : ∀ c (a : Act) w d v, Q (.panic c) a w → Q (.panic c) (a.put d v) w) (hC : C w.drew)
    (h : wpT P l.toArray C Q E Pn ord a w.drew) : (Code.region id l.toArray true).wp P Q a w := by
  simp only [regO, Bool.and_eq_true, beq_iff_eq] at hB
  obtain ⟨⟨hns, hlen⟩, hgo⟩ := hB
  refine wp_region_any hm (wpAny_of_X (C := C) (eff := E.contains) (pan := Pn.contains) _ _ _ _ hC ?_)
  have := wpAnyX_ord (C := C) (E := E) (Pn := Pn) hns hQ hQ' ord (Array.replicate l.toArray.size false) a w.drew hC
    ⟨by simp, fun j o _ hl => by rw [getD_rep] at hl; cases hl⟩ hgo (wpO_of_T ord a w.drew hC h)
  rw [hlen] at this
  simpa using this

/-- A REGION THAT DRAWS ITS ORDER, in the order ord, and whose operation n is its last in every order. -/
theorem wp_region_lastO {id : Nat} {full : List Oper} (n : Nat) (E Pn ord : List Nat) (C : World → Prop) {a : Act} {w : World} (hm : P.follows .mixedOrders = true) (hB : (regO (full.take n).toArray E Pn ord && lastX full n) = true)
    (hQ : ∀ c (a : Act) w d v, Q (.panic c) (a.put d v) w → Q (.panic c) a w) (hQ' : ∀ c (a : Act) w d v, Q (.panic c) a w → Q (.panic c) (a.put d v) w) (hC : C w.drew)
    (h : wpT P (full.take n).toArray C (lastQ P full Q n) E Pn ord a w.drew) : (Code.region id full.toArray true).wp P Q a w := by
  simp only [Bool.and_eq_true] at hB
  obtain ⟨hB1, hB2⟩ := hB
  simp only [regO, Bool.and_eq_true, beq_iff_eq] at hB1
  obtain ⟨⟨hns, hord⟩, hgo⟩ := hB1
  obtain ⟨hlen, _⟩ := lastX_spec hB2
  refine wp_region_any hm ?_
  have hcl : RgClosed (full.take n).toArray (Array.replicate (full.take n).toArray.size false) := ⟨by simp, fun j o _ hl => by rw [getD_rep] at hl; cases hl⟩
  have h0 := wpAnyX_ord (P := P) (ops := (full.take n).toArray) (Q := lastQ P full Q n) (C := C) (E := E) (Pn := Pn) hns (fun c a w d v h => hQ c a w d v h) (fun c a w d v h => hQ' c a w d v h) ord _ a w.drew hC hcl hgo (wpO_of_T ord a w.drew hC h)
  have h1 := wpAny_of_X (C := C) (Q := lastQ P full Q n) (eff := E.contains) (pan := Pn.contains) _ _ _ _ hC h0
  rw [hord] at h1
  have h2 := wpAny_last hB2 _ _ _ _ hcl (by simpa using h1)
  have e1 : (Array.replicate (full.take n).toArray.size false).push false = Array.replicate full.toArray.size false := by
    simp [hlen, ← Array.replicate_succ]
  have e2 : min n full.length + 1 = full.toArray.size := by simp [hlen]
  rw [e1, e2] at h2
  exact h2
end
end Go.Proofs.Ytelepohdfcjnfaa
