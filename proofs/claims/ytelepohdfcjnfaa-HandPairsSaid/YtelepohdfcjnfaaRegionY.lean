/-
  The law of RegionX for regions whose last operation waits for all others: it is served last, and need not keep the class of worlds.
-/
import Derived.Test.YtelepohdfcjnfaaRegionX
namespace Go.Proofs.Ytelepohdfcjnfaa
section
variable {P : Program} {C : World → Prop} {Q : Exit → Act → World → Prop}

/-- what stands behind all operations but the last -/
def lastQ (P : Program) (full : List Oper) (Q : Exit → Act → World → Prop) (n : Nat) : Exit → Act → World → Prop
  | .normal, a, w => wpList P full.toArray Q (full.drop n) a w
  | e, a, w => Q e a w

def lastX (full : List Oper) (n : Nat) : Bool :=
  full.length == n + 1 &&
  ((List.range (n + 1)).all fun i => match full[i]? with
    | none => true
    | some o => (o.after.toList.all fun e => !Region.binds .any e || decide (e.on < i)) && (match o.guard with | none => true | some (j, _) => decide (j < n))) &&
  (List.range n).all fun j => ((masks full.toArray).getD n []).contains j

theorem lastX_spec {full : List Oper} {n : Nat} (h : lastX full n = true) : full.length = n + 1 ∧
    (∀ i o, full[i]? = some o → ∀ e ∈ o.after, Region.binds .any e = true → e.on < i) ∧ (∀ (i : Nat) (o : Oper) (j : Nat) (b : Bool), full[i]? = some o → o.guard = some (j, b) → j < n) ∧ ∀ j, j < n → RgReach full.toArray n j := by
  simp only [lastX, Bool.and_eq_true, beq_iff_eq, List.all_eq_true, List.mem_range] at h
  obtain ⟨⟨h1, h2⟩, h3⟩ := h
  have hlt : ∀ i o, full[i]? = some o → i < n + 1 := fun i o ho => by
    have := (List.getElem?_eq_some_iff.1 ho).1; omega
  refine ⟨h1, ?_, ?_, ?_⟩
  · intro i o ho e he hb
    have := h2 i (hlt i o ho)
    simp only [ho, Bool.and_eq_true, List.all_eq_true] at this
    have := this.1 e (by simpa using he)
    simpa [hb] using this
  · intro i o j b ho hg
    have := h2 i (hlt i o ho)
    simp only [ho, hg, Bool.and_eq_true, decide_eq_true_eq] at this
    exact this.2
  · intro j hj
    have := h3 j hj
    refine masks_sound full.toArray.toList 0 [] (by simp) rfl (fun j i h => by simp at h) n j ?_
    simpa [masks] using this

theorem yielded_take {full : List Oper} {n j : Nat} (hj : j < n) (ts : Array Value) : yielded full.toArray ts j = yielded (full.take n).toArray ts j := by
  unfold yielded
  simp [hj]

theorem wanted_take {full : List Oper} {n : Nat} {o : Oper} (hg : ∀ j b, o.guard = some (j, b) → j < n) (ts : Array Value) : Region.wanted o (yielded full.toArray ts) = Region.wanted o (yielded (full.take n).toArray ts) := by
  unfold Region.wanted
  cases h : o.guard with
  | none => rfl
  | some p =>
    obtain ⟨j, b⟩ := p
    simp only
    rw [yielded_take (hg j b h)]

theorem getD_push_lt {s : Array Bool} {n j : Nat} {d : Bool} (hs : s.size = n) (hj : j < n) : (s.push false).getD j d = s.getD j d := by
  simp [Array.getElem?_push, hs]
  rw [if_neg (by omega)]

theorem getD_push_eq {s : Array Bool} {n : Nat} {d : Bool} (hs : s.size = n) : (s.push false).getD n d = false := by
  subst hs; simp

theorem set_push (s : Array Bool) (i : Nat) (hi : i < s.size) : (s.push false).setIfInBounds i true = (s.setIfInBounds i true).push false := by
  apply Array.ext_getElem?
  intro k
  simp only [Array.getElem?_setIfInBounds, Array.getElem?_push, Array.size_setIfInBounds, Array.size_push]
  by_cases h1 : k = s.size
  · subst h1
    rw [if_neg (by omega), if_pos rfl, if_pos rfl]
  · rw [if_neg h1]
    by_cases h2 : i = k
    · rw [if_pos h2, if_pos (by omega), if_neg h1, if_pos h2, if_pos (by omega)]
    · rw [if_neg h2, if_neg h1, if_neg h2]

theorem wpAny_last {full : List Oper} {n : Nat} (hx : lastX full n = true) : ∀ (fuel : Nat) (listed : Array Bool) (a : Act) (w : World), RgClosed (full.take n).toArray listed →
    wpAny P .any (full.take n).toArray (lastQ P full Q n) fuel listed a w → wpAny P .any full.toArray Q (fuel + 1) (listed.push false) a w := by
  obtain ⟨hlen, hedge, hguard, hreach⟩ := lastX_spec hx
  have htake : ∀ i, i < n → (full.take n).toArray[i]? = full.toArray[i]? := fun i hi => by simp [hi]
  have hlo : ∃ o, full[n]? = some o := ⟨full[n]'(by omega), by simp⟩
  obtain ⟨lo, hlo⟩ := hlo
  have hdrop : full.drop n = [lo] := by
    have h1 : n < full.length := by omega
    rw [List.drop_eq_getElem_cons h1, List.drop_eq_nil_of_le (by omega)]
    have := (List.getElem?_eq_some_iff.1 hlo).2
    rw [this]
  -- A: below the last
  have hA : ∀ (listed : Array Bool), listed.size = n → ∀ i, i < n → i ∈ Region.ready .any full.toArray (listed.push false) → i ∈ Region.ready .any (full.take n).toArray listed := by
    intro listed hs i hi hr
    obtain ⟨h0, o, ho, hall⟩ := mem_ready.1 hr
    refine mem_ready.2 ⟨by rw [← getD_push_lt hs hi]; exact h0, o, by rw [htake i hi]; exact ho, fun e he hb => ?_⟩
    have h1 := hall e he hb
    have h2 := hedge i o (by simpa using ho) e he hb
    rwa [getD_push_lt hs (by omega)] at h1
  -- C: the last is ready when all others are served
  have hC : ∀ (listed : Array Bool), listed.size = n → Region.ready .any (full.take n).toArray listed = [] → ∀ j, j < n → listed.getD j false = true := by
    intro listed hs hr j
    induction j using Nat.strongRecOn with
    | ind j ih =>
      intro hj
      apply Classical.byContradiction
      intro hn
      have hjm : j ∈ Region.ready .any (full.take n).toArray listed := by
        have hjf : j < full.length := by omega
        refine mem_ready.2 ⟨?_, full[j], by rw [htake j hj]; simp, fun e he hb => ?_⟩
        · have hjs : j < listed.size := by omega
          simp [hjs] at hn ⊢
          exact hn
        · have h2 := hedge j full[j] (by simp) e he hb
          exact ih e.on h2 (by omega)
      rw [hr] at hjm; cases hjm
  have hlast : ∀ (listed : Array Bool), listed.size = n → (∀ j, j < n → listed.getD j false = true) → n ∈ Region.ready .any full.toArray (listed.push false) := by
    intro listed hs hall
    refine mem_ready.2 ⟨getD_push_eq hs, lo, by simpa using hlo, fun e he hb => ?_⟩
    have h2 := hedge n lo hlo e he hb
    rw [getD_push_lt hs h2]
    exact hall _ h2
  -- B: when the last is ready, all others are served
  have hB : ∀ (listed : Array Bool), RgClosed (full.take n).toArray listed → n ∈ Region.ready .any full.toArray (listed.push false) → ∀ j, j < n → listed.getD j false = true := by
    intro listed hcl hr j hj
    have hs : listed.size = n := by rw [hcl.1]; simp; omega
    have hcl' : RgClosed full.toArray (listed.push false) := by
      refine ⟨by simp [hs, hlen], fun k o ho hl e he hb => ?_⟩
      have hk : k < n := by
        have h1 := (List.getElem?_eq_some_iff.1 (show full[k]? = some o by simpa using ho)).1
        rcases Nat.lt_or_ge k n with h | h
        · exact h
        · have : k = n := by omega
          subst this
          rw [getD_push_eq hs] at hl; cases hl
      have h2 := hedge k o (by simpa using ho) e he hb
      rw [getD_push_lt hs hk] at hl
      rw [getD_push_lt hs (by omega)]
      exact hcl.2 k o (by rw [htake k hk]; exact ho) hl e he hb
    obtain ⟨_, o, ho, hall⟩ := mem_ready.1 hr
    have hfin : (listed.push false).getD j false = true := by
      cases hreach j hj with
      | direct _ _ o' e ho' he hb hon =>
        obtain rfl : o = o' := Option.some.inj (ho.symm.trans ho')
        exact hon ▸ hall e he hb
      | via _ k _ o' e ho' he hb hon hr' =>
        obtain rfl : o = o' := Option.some.inj (ho.symm.trans ho')
        exact reach_listed hcl' hr' (hon ▸ hall e he hb)
    rwa [getD_push_lt hs hj] at hfin
  -- the last operation
  have hend : ∀ (fuel : Nat) (listed : Array Bool) (a : Act) (w : World), listed.size = n → (∀ j, j < n → listed.getD j false = true) → lastQ P full Q n .normal a w →
      wpOp P full.toArray Q n (wpAny P .any full.toArray Q fuel ((listed.push false).setIfInBounds n true)) a w := by
    intro fuel listed a w hs hall h
    have hnone : Region.ready .any full.toArray ((listed.push false).setIfInBounds n true) = [] := by
      apply List.eq_nil_iff_forall_not_mem.2
      intro i hi
      obtain ⟨h0, o, ho, _⟩ := mem_ready.1 hi
      have h1 := (List.getElem?_eq_some_iff.1 (show full[i]? = some o by simpa using ho)).1
      by_cases hin : n = i
      · subst hin
        simp [hs] at h0
      · rw [getD_set_ne true hin, getD_push_lt hs (by omega)] at h0
        have h2 := hall i (by omega)
        have hjs : i < listed.size := by omega
        simp [hjs] at h0 h2
        rw [h0] at h2; cases h2
    have hK : ∀ a w, Q .normal a w → wpAny P .any full.toArray Q fuel ((listed.push false).setIfInBounds n true) a w := by
      intro a w hq
      cases fuel with
      | zero => exact ⟨hnone, hq⟩
      | succ m => exact ⟨fun _ => hq, fun i hi => by rw [hnone] at hi; cases hi⟩
    unfold lastQ at h
    rw [hdrop] at h
    simp only [wpList] at h
    unfold wpOp
    have hlo' : full.toArray[n]? = some lo := by simpa using hlo
    simp only [hlo']
    split at h
    · next hw =>
      rw [if_pos hw]
      rcases h with h | h
      · exact .inl (Oper.wp_mono hK h)
      · exact .inr h
    · next hw => rw [if_neg hw]; exact hK _ _ h
  have hstep : ∀ (i : Nat) (K K' : Act → World → Prop) (a : Act) (w : World), i < n → (∀ a w, K a w → K' a w) → wpOp P (full.take n).toArray (lastQ P full Q n) i K a w → wpOp P full.toArray Q i K' a w := by
    intro i K K' a w hi hK h
    unfold wpOp at h ⊢
    rw [htake i hi] at h
    have hif : i < full.length := by omega
    have ho : full.toArray[i]? = some full[i] := by simp
    simp only [ho] at h ⊢
    rw [wanted_take (n := n) (fun j b hg => hguard i full[i] j b (by simp) hg)]
    split at h
    · next hw =>
      rw [if_pos hw]
      rcases h with h | ⟨h1, a0, w0, h2⟩
      · exact .inl (upon_imp hK (fun c w h => h) (fun ⟨a0, w0, h2⟩ => ⟨a0, w0, h2⟩) h)
      · exact .inr ⟨h1, a0, w0, h2⟩
    · next hw => rw [if_neg hw]; exact hK _ _ h
  have hle : ∀ (listed : Array Bool) i, i ∈ Region.ready .any full.toArray (listed.push false) → i < n ∨ i = n := by
    intro listed i hi
    obtain ⟨_, o, ho, _⟩ := mem_ready.1 hi
    have h1 := (List.getElem?_eq_some_iff.1 (show full[i]? = some o by simpa using ho)).1
    omega
  intro fuel
  induction fuel with
  | zero =>
    intro listed a w hcl h
    have hs : listed.size = n := by rw [hcl.1]; simp; omega
    have hall := hC listed hs h.1
    refine ⟨fun h' => ?_, fun i hi => ?_⟩
    · have := hlast listed hs hall; rw [h'] at this; cases this
    · rcases hle listed i hi with h1 | rfl
      · have := hA listed hs i h1 hi; rw [h.1] at this; cases this
      · exact hend 0 listed a w hs hall h.2
  | succ fuel ih =>
    intro listed a w hcl h
    have hs : listed.size = n := by rw [hcl.1]; simp; omega
    refine ⟨fun h' => ?_, fun i hi => ?_⟩
    · have hr : Region.ready .any (full.take n).toArray listed = [] := by
        apply Classical.byContradiction
        intro hne
        obtain ⟨j, hj⟩ := List.exists_mem_of_ne_nil _ hne
        obtain ⟨h0, o, ho, hall⟩ := mem_ready.1 hj
        have hjn : j < n := by
          have := (Array.getElem?_eq_some_iff.1 ho).1
          simp at this; omega
        have : j ∈ Region.ready .any full.toArray (listed.push false) := by
          refine mem_ready.2 ⟨by rw [getD_push_lt hs hjn]; exact h0, o, by rw [← htake j hjn]; exact ho, fun e he hb => ?_⟩
          have h2 := hedge j o (by rw [htake j hjn] at ho; simpa using ho) e he hb
          rw [getD_push_lt hs (by omega)]
          exact hall e he hb
        rw [h'] at this; cases this
      have := hlast listed hs (hC listed hs hr); rw [h'] at this; cases this
    · rcases hle listed i hi with h1 | h1
      · have hir := hA listed hs i h1 hi
        refine hstep i _ _ a w h1 (fun a w hk => ?_) (h.2 i hir)
        have e1 : (listed.push false).setIfInBounds i true = (listed.setIfInBounds i true).push false := by
          exact set_push listed i (by omega)
        rw [e1]
        exact ih _ a w (hcl.set hir) hk
      · rw [h1] at hi ⊢
        have hall := hB listed hcl hi
        have hr : Region.ready .any (full.take n).toArray listed = [] := by
          apply List.eq_nil_iff_forall_not_mem.2
          intro j hj
          obtain ⟨h0, o, ho, _⟩ := mem_ready.1 hj
          have hjn : j < n := by
            have := (Array.getElem?_eq_some_iff.1 ho).1
            simp at this; omega
          have h2 := hall j hjn
          have hjs : j < listed.size := by omega
          simp [hjs] at h0 h2
          rw [h0] at h2; cases h2
        exact hend (fuel + 1) listed a w hs hall (h.1 hr)

/-- A REGION THAT DRAWS ITS ORDER and whose operation n is its last in every order. -/
theorem wp_region_last {id : Nat} {full : List Oper} (n : Nat) (E Pn : List Nat) (C : World → Prop) {a : Act} {w : World} (hm : P.follows .mixedOrders = true) (hB : (regX (full.take n).toArray E Pn && lastX full n) = true)
    (hQ : ∀ c (a : Act) w d v, Q (.panic c) (a.put d v) w → Q (.panic c) a w) (hQ' : ∀ c (a : Act) w d v, Q (.panic c) a w → Q (.panic c) (a.put d v) w) (hC : C w.drew)
    (h : wpU P (full.take n).toArray C (lastQ P full Q n) E Pn 0 (full.take n) a w.drew) : (Code.region id full.toArray true).wp P Q a w := by
  simp only [Bool.and_eq_true] at hB
  obtain ⟨hB1, hB2⟩ := hB
  simp only [regX, Bool.and_eq_true] at hB1
  obtain ⟨hlen, _⟩ := lastX_spec hB2
  refine wp_region_any hm ?_
  have hcl : RgClosed (full.take n).toArray (Array.replicate (full.take n).toArray.size false) := ⟨by simp, fun j o _ hl => by rw [getD_rep] at hl; cases hl⟩
  have h1 := wpAny_of_X (C := C) (Q := lastQ P full Q n) (eff := E.contains) (pan := Pn.contains) _ _ _ _ hC
    (wpAnyX_text (P := P) (ops := (full.take n).toArray) (Q := lastQ P full Q n) (C := C) (E := E) (Pn := Pn) hB1.1 (fun c a w d v h => hQ c a w d v h) (fun c a w d v h => hQ' c a w d v h) (full.take n) 0 (Array.replicate (full.take n).toArray.size false) a w.drew (by simp) hC hcl (by simpa using hB1.2) (wpX_of_U (full.take n) 0 a w.drew hC h))
  have h2 := wpAny_last hB2 _ _ _ _ hcl h1
  have e1 : (Array.replicate (full.take n).toArray.size false).push false = Array.replicate full.toArray.size false := by
    simp [hlen, ← Array.replicate_succ]
  have e2 : (full.take n).length + 1 = full.toArray.size := by simp [hlen]
  rw [e1, e2] at h2
  exact h2
end
end Go.Proofs.Ytelepohdfcjnfaa
