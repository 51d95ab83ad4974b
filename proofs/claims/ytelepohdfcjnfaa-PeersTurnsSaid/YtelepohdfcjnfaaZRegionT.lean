/-
  A region that draws its order, and whose last operations wait for all that stand ahead of them: the head by a plan, then the tail in an order of its own, with a class of worlds of its own. No program of the seat here.
-/
import Derived.Test.YtelepohdfcjnfaaZRegionW
namespace Go.Proofs.Ytelepohdfcjnfaa
section
variable {P : Program} {C : World → Prop} {Q : Exit → Act → World → Prop}

def allSet (n m : Nat) : Array Bool := Array.replicate n true ++ Array.replicate m false

/-- what stands behind the first n operations: the others, in any order -/
def tailQ (P : Program) (full : List Oper) (Q : Exit → Act → World → Prop) (n m : Nat) : Exit → Act → World → Prop
  | .normal, a, w => wpAny P .any full.toArray Q m (allSet n m) a w
  | e, a, w => Q e a w

def tailX (full : List Oper) (n m : Nat) : Bool :=
  full.length == n + m &&
  ((List.range (n + m)).all fun i => match full[i]? with
    | none => true
    | some o => (o.after.toList.all fun e => !Region.binds .any e || decide (e.on < i)) && (match o.guard with | none => true | some (j, _) => decide (n ≤ i) || decide (j < n))) &&
  (List.range m).all fun i => (List.range n).all fun j => ((masks full.toArray).getD (n + i) []).contains j

theorem tailX_spec {full : List Oper} {n m : Nat} (h : tailX full n m = true) : full.length = n + m ∧
    (∀ i o, full[i]? = some o → ∀ e ∈ o.after, Region.binds .any e = true → e.on < i) ∧ (∀ (i : Nat) (o : Oper) (j : Nat) (b : Bool), i < n → full[i]? = some o → o.guard = some (j, b) → j < n) ∧ ∀ i j, n ≤ i → i < n + m → j < n → RgReach full.toArray i j := by
  simp only [tailX, Bool.and_eq_true, beq_iff_eq, List.all_eq_true, List.mem_range] at h
  obtain ⟨⟨h1, h2⟩, h3⟩ := h
  have hlt : ∀ i o, full[i]? = some o → i < n + m := fun i o ho => by
    have := (List.getElem?_eq_some_iff.1 ho).1; omega
  refine ⟨h1, ?_, ?_, ?_⟩
  · intro i o ho e he hb
    have := h2 i (hlt i o ho)
    simp only [ho, Bool.and_eq_true, List.all_eq_true] at this
    have := this.1 e (by simpa using he)
    simpa [hb] using this
  · intro i o j b hi ho hg
    have := h2 i (hlt i o ho)
    simp only [ho, hg, Bool.and_eq_true, Bool.or_eq_true, decide_eq_true_eq] at this
    rcases this.2 with h | h
    · omega
    · exact h
  · intro i j hi him hj
    have := h3 (i - n) (by omega) j hj
    rw [show n + (i - n) = i by omega] at this
    refine masks_sound full.toArray.toList 0 [] (by simp) rfl (fun j i h => by simp at h) i j ?_
    simpa [masks] using this

theorem getD_app_lt {s : Array Bool} {n m j : Nat} {d : Bool} (hs : s.size = n) (hj : j < n) : (s ++ Array.replicate m false).getD j d = s.getD j d := by
  have : j < s.size := by omega
  simp [Array.getElem?_append, this]
theorem set_app (s t : Array Bool) (i : Nat) (hi : i < s.size) : (s ++ t).setIfInBounds i true = s.setIfInBounds i true ++ t := by
  apply Array.ext_getElem?
  intro k
  simp only [Array.getElem?_setIfInBounds, Array.getElem?_append, Array.size_setIfInBounds, Array.size_append]
  by_cases h2 : i = k
  · subst h2
    rw [if_pos rfl, if_pos (by omega), if_pos hi, if_pos rfl, if_pos hi]
  · simp only [if_neg h2]

theorem wpAny_more {ops : Array Oper} : ∀ (fuel k : Nat) (listed : Array Bool) (a : Act) (w : World), wpAny P .any ops Q fuel listed a w → wpAny P .any ops Q (fuel + k) listed a w
  | 0, 0, _, _, _, h => h
  | 0, k + 1, listed, a, w, h => by
    obtain ⟨h1, h2⟩ := h
    refine ⟨fun _ => h2, fun i hi => ?_⟩
    rw [h1] at hi; cases hi
  | fuel + 1, k, listed, a, w, h => by
    rw [show fuel + 1 + k = (fuel + k) + 1 by omega]
    exact ⟨h.1, fun i hi => wpOp_mono (fun a w h => wpAny_more fuel k _ a w h) (h.2 i hi)⟩

theorem wpAny_tail {full : List Oper} {n m : Nat} (hx : tailX full n m = true) : ∀ (fuel : Nat) (listed : Array Bool) (a : Act) (w : World), RgClosed (full.take n).toArray listed →
    wpAny P .any (full.take n).toArray (tailQ P full Q n m) fuel listed a w → wpAny P .any full.toArray Q (fuel + m) (listed ++ Array.replicate m false) a w := by
  obtain ⟨hlen, hedge, hguard, hreach⟩ := tailX_spec hx
  have htake : ∀ i, i < n → (full.take n).toArray[i]? = full.toArray[i]? := fun i hi => by simp [hi]
  -- all are served when none is ready
  have hC : ∀ (listed : Array Bool), listed.size = n → Region.ready .any (full.take n).toArray listed = [] → ∀ j, j < n → listed.getD j false = true := by
    intro listed hs hr j
    induction j using Nat.strongRecOn with
    | ind j ih =>
      intro hj
      apply Classical.byContradiction
      intro hn
      have hjm : j ∈ Region.ready .any (full.take n).toArray listed := by
        have hjf : j < full.length := by omega
        refine mem_ready.2 ⟨?_, full[j], by rw [htake j hj]; simp, fun e he hb => ?_⟩
        · have hjs : j < listed.size := by omega
          simp [hjs] at hn ⊢
          exact hn
        · have h2 := hedge j full[j] (by simp) e he hb
          exact ih e.on h2 (by omega)
      rw [hr] at hjm; cases hjm
  have hAll : ∀ (listed : Array Bool), listed.size = n → (∀ j, j < n → listed.getD j false = true) → listed ++ Array.replicate m false = allSet n m := by
    intro listed hs hall
    unfold allSet
    congr 1
    apply Array.ext (by simp [hs])
    intro i h1 h2
    have := hall i (by omega)
    simp [h1] at this ⊢
    exact this
  have hcl' : ∀ (listed : Array Bool), RgClosed (full.take n).toArray listed → listed.size = n → RgClosed full.toArray (listed ++ Array.replicate m false) := by
    intro listed hcl hs
    refine ⟨by simp [hs, hlen], fun k o ho hl e he hb => ?_⟩
    have hk : k < n := by
      rcases Nat.lt_or_ge k n with h | h
      · exact h
      · simp [Array.getElem?_append, hs, show ¬ k < n by omega, Array.getElem?_replicate] at hl
        split at hl <;> simp at hl
    have h2 := hedge k o (by simpa using ho) e he hb
    rw [getD_app_lt hs hk] at hl
    rw [getD_app_lt hs (by omega)]
    exact hcl.2 k o (by rw [htake k hk]; exact ho) hl e he hb
  -- one of the tail is ready: all of the head are served
  have hB : ∀ (listed : Array Bool), RgClosed (full.take n).toArray listed → listed.size = n → ∀ i, n ≤ i → i ∈ Region.ready .any full.toArray (listed ++ Array.replicate m false) → ∀ j, j < n → listed.getD j false = true := by
    intro listed hcl hs i hi hr j hj
    obtain ⟨_, o, ho, hall⟩ := mem_ready.1 hr
    have him : i < n + m := by
      have := (Array.getElem?_eq_some_iff.1 ho).1
      simp at this; omega
    have hfin : (listed ++ Array.replicate m false).getD j false = true := by
      cases hreach i j hi him hj with
      | direct _ _ o' e ho' he hb hon =>
        obtain rfl : o = o' := Option.some.inj (ho.symm.trans ho')
        exact hon ▸ hall e he hb
      | via _ k _ o' e ho' he hb hon hr' =>
        obtain rfl : o = o' := Option.some.inj (ho.symm.trans ho')
        exact reach_listed (hcl' listed hcl hs) hr' (hon ▸ hall e he hb)
    rwa [getD_app_lt hs hj] at hfin
  have hstep : ∀ (i : Nat) (K K' : Act → World → Prop) (a : Act) (w : World), i < n → (∀ a w, K a w → K' a w) → wpOp P (full.take n).toArray (tailQ P full Q n m) i K a w → wpOp P full.toArray Q i K' a w := by
    intro i K K' a w hi hK h
    unfold wpOp at h ⊢
    rw [htake i hi] at h
    have hif : i < full.length := by omega
    have ho : full.toArray[i]? = some full[i] := by simp
    simp only [ho] at h ⊢
    rw [wanted_take (n := n) (fun j b hg => hguard i full[i] j b hi (by simp) hg)]
    split at h
    · next hw =>
      rw [if_pos hw]
      rcases h with h | ⟨h1, a0, w0, h2⟩
      · exact .inl (upon_imp hK (fun c w h => h) (fun ⟨a0, w0, h2⟩ => ⟨a0, w0, h2⟩) h)
      · exact .inr ⟨h1, a0, w0, h2⟩
    · next hw => rw [if_neg hw]; exact hK _ _ h
  intro fuel
  induction fuel with
  | zero =>
    intro listed a w hcl h
    have hs : listed.size = n := by rw [hcl.1]; simp; omega
    obtain ⟨h1, h2⟩ := h
    rw [hAll listed hs (hC listed hs h1), Nat.zero_add]
    exact h2
  | succ fuel ih =>
    intro listed a w hcl h
    have hs : listed.size = n := by rw [hcl.1]; simp; omega
    by_cases hr : Region.ready .any (full.take n).toArray listed = []
    · rw [hAll listed hs (hC listed hs hr), Nat.add_comm]
      exact wpAny_more m (fuel + 1) _ a w (h.1 hr)
    · rw [show fuel + 1 + m = (fuel + m) + 1 by omega]
      have hnot : ∀ (hall : ∀ j, j < n → listed.getD j false = true), False := by
        intro hall
        apply hr
        apply List.eq_nil_iff_forall_not_mem.2
        intro j hj
        obtain ⟨h0, o, ho, _⟩ := mem_ready.1 hj
        have hjn : j < n := by
          have := (Array.getElem?_eq_some_iff.1 ho).1
          simp at this; omega
        have h2 := hall j hjn
        have hjs : j < listed.size := by omega
        simp [hjs] at h0 h2
        rw [h0] at h2; cases h2
      refine ⟨fun h' => ?_, fun i hi => ?_⟩
      · exfalso
        obtain ⟨j, hj⟩ := List.exists_mem_of_ne_nil _ hr
        obtain ⟨h0, o, ho, hall⟩ := mem_ready.1 hj
        have hjn : j < n := by
          have := (Array.getElem?_eq_some_iff.1 ho).1
          simp at this; omega
        have : j ∈ Region.ready .any full.toArray (listed ++ Array.replicate m false) := by
          refine mem_ready.2 ⟨by rw [getD_app_lt hs hjn]; exact h0, o, by rw [← htake j hjn]; exact ho, fun e he hb => ?_⟩
          have h2 := hedge j o (by rw [htake j hjn] at ho; simpa using ho) e he hb
          rw [getD_app_lt hs (by omega)]
          exact hall e he hb
        rw [h'] at this; cases this
      · by_cases hin : i < n
        · obtain ⟨h0, o, ho, hall⟩ := mem_ready.1 hi
          have hir : i ∈ Region.ready .any (full.take n).toArray listed := by
            refine mem_ready.2 ⟨by rw [← getD_app_lt (m := m) hs hin]; exact h0, o, by rw [htake i hin]; exact ho, fun e he hb => ?_⟩
            have h1 := hall e he hb
            have h2 := hedge i o (by simpa using ho) e he hb
            rwa [getD_app_lt hs (by omega)] at h1
          refine hstep i _ _ a w hin (fun a w hk => ?_) (h.2 i hir)
          rw [set_app listed _ i (by omega)]
          exact ih _ a w (hcl.set hir) hk
        · exact (hnot (hB listed hcl hs i (by omega) hi)).elim

theorem allSet_closed {full : List Oper} {n m : Nat} (hx : tailX full n m = true) : RgClosed full.toArray (allSet n m) := by
  obtain ⟨hlen, hedge, _, _⟩ := tailX_spec hx
  refine ⟨by simp [allSet, hlen], fun k o ho hl e he hb => ?_⟩
  have hk : k < n := by
    rcases Nat.lt_or_ge k n with h | h
    · exact h
    · simp [allSet, Array.getElem?_append, show ¬ k < n by omega, Array.getElem?_replicate] at hl
      split at hl <;> simp at hl
  have h2 := hedge k o (by simpa using ho) e he hb
  simp [allSet, Array.getElem?_append, show e.on < n by omega]

/-- the tail in the order ord, its effects E2 -/
def tailT (P : Program) (full : List Oper) (Q : Exit → Act → World → Prop) (E2 ord : List Nat) : Exit → Act → World → Prop
  | .normal, a, w => ∃ C2 : World → Prop, C2 w ∧ wpT P full.toArray C2 Q E2 [] ord a w
  | e, a, w => Q e a w

theorem tailT_open {full : List Oper} {E2 ord : List Nat} {a : Act} {w : World} (C2 : World → Prop) (hC : C2 w) (h : wpT P full.toArray C2 Q E2 [] ord a w) : tailT P full Q E2 ord .normal a w := ⟨C2, hC, h⟩
/-- A REGION THAT DRAWS ITS ORDER: the first n operations along the plan p (their effects E), then the last m, which wait for all of these, in the order ord (their effects E2). -/
theorem wp_region_tail {id : Nat} {full : List Oper} (n m : Nat) (E : List Nat) (p : Plan) (E2 ord : List Nat) (C : World → Prop) {a : Act} {w : World} (hm : P.follows .mixedOrders = true)
    (hB : ((regP (full.take n).toArray E p && goE E p) && tailX full n m && (Region.noSelect full.toArray && ord.length == m && goO full.toArray (masks full.toArray) E2 [] ord (allSet n m))) = true)
    (hQ : ∀ c (a : Act) w d v, Q (.panic c) (a.put d v) w → Q (.panic c) a w) (hQ' : ∀ c (a : Act) w d v, Q (.panic c) a w → Q (.panic c) (a.put d v) w) (hC : C w.drew)
    (h : wpV P (full.take n).toArray C (tailT P full Q E2 ord) E p a w.drew) : (Code.region id full.toArray true).wp P Q a w := by
  simp only [Bool.and_eq_true, beq_iff_eq] at hB
  obtain ⟨⟨⟨hB1, hge⟩, hx⟩, ⟨hns2, hlo⟩, hgo2⟩ := hB
  simp only [regP, Bool.and_eq_true, beq_iff_eq] at hB1
  obtain ⟨⟨hns, hfu⟩, hgo⟩ := hB1
  obtain ⟨hlen, _⟩ := tailX_spec hx
  refine wp_region_any hm ?_
  have hcl : RgClosed (full.take n).toArray (Array.replicate (full.take n).toArray.size false) := ⟨by simp, fun j o _ hl => by rw [getD_rep] at hl; cases hl⟩
  have h0 := wpAny_of_X (C := C) (Q := tailT P full Q E2 ord) (eff := E.contains) (pan := fun _ => false) _ _ _ _ hC
    (wpAnyX_plan (P := P) (ops := (full.take n).toArray) (Q := tailT P full Q E2 ord) (C := C) (E := E) hns (fun c a w d v h => hQ c a w d v h) (fun c a w d v h => hQ' c a w d v h) p _ a w.drew hC hcl hgo (wpP_of_V p a w.drew hge hC h))
  have hT : ∀ fuel listed a w, wpAny P .any (full.take n).toArray (tailT P full Q E2 ord) fuel listed a w → wpAny P .any (full.take n).toArray (tailQ P full Q n m) fuel listed a w := by
    intro fuel
    have key : ∀ a w, tailT P full Q E2 ord .normal a w → tailQ P full Q n m .normal a w := by
      rintro a w ⟨C2, hC2, h2⟩
      have h3 := wpAnyX_ord (P := P) (ops := full.toArray) (Q := Q) (C := C2) (E := E2) (Pn := []) hns2 hQ hQ' ord (allSet n m) a w hC2 (allSet_closed hx) hgo2 (wpO_of_T ord a w hC2 h2)
      rw [hlo] at h3
      exact wpAny_of_X (C := C2) (Q := Q) (eff := E2.contains) (pan := ([] : List Nat).contains) _ _ _ _ hC2 h3
    have hop : ∀ (i : Nat) (K K' : Act → World → Prop) (a : Act) (w : World), (∀ a w, K a w → K' a w) → wpOp P (full.take n).toArray (tailT P full Q E2 ord) i K a w → wpOp P (full.take n).toArray (tailQ P full Q n m) i K' a w := by
      intro i K K' a w hK h
      unfold wpOp at h ⊢
      split
      · rename_i ho; simp only [ho] at h; exact hK _ _ h
      · rename_i o ho
        simp only [ho] at h
        split at h
        · next hw =>
          rw [if_pos hw]
          rcases h with h | ⟨h1, a0, w0, h2⟩
          · exact .inl (upon_imp hK (fun c w h => h) (fun ⟨a0, w0, h2⟩ => ⟨a0, w0, h2⟩) h)
          · exact .inr ⟨h1, a0, w0, h2⟩
        · next hw => rw [if_neg hw]; exact hK _ _ h
    induction fuel with
    | zero => intro listed a w h; exact ⟨h.1, key a w h.2⟩
    | succ fuel ih => intro listed a w h; exact ⟨fun hr => key a w (h.1 hr), fun i hi => hop i _ _ a w (fun a w h => ih _ a w h) (h.2 i hi)⟩
  have h2 := wpAny_tail hx _ _ _ _ hcl (hT _ _ _ _ h0)
  rw [hfu] at h2
  have e1 : Array.replicate (full.take n).toArray.size false ++ Array.replicate m false = Array.replicate full.toArray.size false := by
    rw [Array.replicate_append_replicate]; congr 1; simp [hlen]
  have e2 : (full.take n).toArray.size + m = full.toArray.size := by simp [hlen]
  rw [e1, e2] at h2
  exact h2
end
end Go.Proofs.Ytelepohdfcjnfaa
