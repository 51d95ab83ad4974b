/-
  The law of RegionZ along a plan that may part in three (printed by gen_regionm.py out of XRegionZ). No program of the seat here.
-/
import Derived.Test.YtelepohdfcjnfaaZRegionW
namespace Go.Proofs.Ytelepohdfcjnfaa
section
variable {P : Program} {ops : Array Oper} {C : World → Prop} {Q : Exit → Act → World → Prop} {eff pan : Nat → Bool}

/-- in which order: an operation taken next; or either of two effects, and how it goes on behind each -/
inductive PlanM where
  | done
  | take (k : Nat) (p : PlanM)
  | fork (i j : Nat) (p q : PlanM)
  | part (i j k : Nat) (p q r : PlanM)

def PlanM.seq (l : List Nat) (p : PlanM) : PlanM := l.foldr .take p

def PlanM.fuel : PlanM → Nat
  | .done => 0
  | .take _ p => p.fuel + 1
  | .fork _ _ p _ => p.fuel + 1
  | .part _ _ _ p _ _ => p.fuel + 1

/-- every effect that is not yet done, but those of F, waitsM for one of F -/
def waitsM (ops : Array Oper) (ms : List (List Nat)) (E : List Nat) (F : List Nat) (listed : Array Bool) : Bool :=
  (List.range ops.size).all fun j => F.contains j || listed.getD j true || !E.contains j || F.any fun i => (ms.getD j []).contains i

def goPM (ops : Array Oper) (ms : List (List Nat)) (E : List Nat) : PlanM → Array Bool → Bool
  | .done, listed => (Region.ready .any ops listed).isEmpty
  | .take k p, listed => (Region.ready .any ops listed).contains k && Region.free .any ops listed k && (!E.contains k || waitsM ops ms E [k] listed) && goPM ops ms E p (listed.setIfInBounds k true)
  | .fork i j p q, listed => (Region.ready .any ops listed).contains i && (Region.ready .any ops listed).contains j && Region.free .any ops listed i && Region.free .any ops listed j && E.contains i && E.contains j && (p.fuel == q.fuel) &&
      waitsM ops ms E [i, j] listed && goPM ops ms E p (listed.setIfInBounds i true) && goPM ops ms E q (listed.setIfInBounds j true)
  | .part i j k p q r, listed => ((Region.ready .any ops listed).contains i && (Region.ready .any ops listed).contains j && (Region.ready .any ops listed).contains k) && (Region.free .any ops listed i && Region.free .any ops listed j && Region.free .any ops listed k) && (E.contains i && E.contains j && E.contains k) && ((p.fuel == q.fuel) && (p.fuel == r.fuel)) &&
      waitsM ops ms E [i, j, k] listed && (goPM ops ms E p (listed.setIfInBounds i true) && goPM ops ms E q (listed.setIfInBounds j true) && goPM ops ms E r (listed.setIfInBounds k true))

def regPM (ops : Array Oper) (E : List Nat) (p : PlanM) : Bool := Region.noSelect ops && (p.fuel == ops.size) && goPM ops (masks ops) E p (Array.replicate ops.size false)

/-- what parts is an effect -/
def goEM (E : List Nat) : PlanM → Bool
  | .done => true
  | .take _ p => goEM E p
  | .fork i j p q => E.contains i && E.contains j && goEM E p && goEM E q
  | .part i j k p q r => (E.contains i && E.contains j && E.contains k) && (goEM E p && goEM E q && goEM E r)

def wpPM (P : Program) (ops : Array Oper) (C : World → Prop) (Q : Exit → Act → World → Prop) (eff : Nat → Bool) : PlanM → Act → World → Prop
  | .done, a, w => Q .normal a w
  | .take k p, a, w => ∀ o, ops[k]? = some o → stepX P ops C Q eff (fun _ => false) k o (wpPM P ops C Q eff p) a w
  | .fork i j p q, a, w => (∀ o, ops[i]? = some o → stepX P ops C Q eff (fun _ => false) i o (wpPM P ops C Q eff p) a w) ∧ (∀ o, ops[j]? = some o → stepX P ops C Q eff (fun _ => false) j o (wpPM P ops C Q eff q) a w)
  | .part i j k p q r, a, w => (∀ o, ops[i]? = some o → stepX P ops C Q eff (fun _ => false) i o (wpPM P ops C Q eff p) a w) ∧ (∀ o, ops[j]? = some o → stepX P ops C Q eff (fun _ => false) j o (wpPM P ops C Q eff q) a w) ∧ (∀ o, ops[k]? = some o → stepX P ops C Q eff (fun _ => false) k o (wpPM P ops C Q eff r) a w)

theorem waits_specM {E F : List Nat} {listed : Array Bool} (h : waitsM ops (masks ops) E F listed = true) : ∀ j, j ∉ F → listed.getD j true = false → E.contains j = true → j < ops.size → ∃ i ∈ F, RgReach ops j i := by
  intro j hjF hun he hlt
  simp only [waitsM, List.all_eq_true, List.mem_range] at h
  have h1 := h j hlt
  have e1 : F.contains j = false := by rw [Bool.eq_false_iff]; intro h; exact hjF (List.contains_iff_mem.1 h)
  simp only [e1, hun, he, Bool.or_false, Bool.false_or, Bool.not_true, List.any_eq_true] at h1
  obtain ⟨i, hi, hm⟩ := h1
  refine ⟨i, hi, masks_sound ops.toList 0 [] (by simp) rfl (fun j i h => by simp at h) j i ?_⟩
  simpa [masks] using hm

theorem stepX_wpM {i : Nat} {o : Oper} {K K' : Act → World → Prop} {a : Act} {w : World} (he : eff i = true) (hC : C w) (hK : ∀ a w, C w → K a w → K' a w) (h : stepX P ops C Q eff pan i o K a w) : stepX P ops C Q eff pan i o K' a w := by
  unfold stepX at h ⊢
  simp only [he, if_true] at h ⊢
  split
  · rename_i hw
    simp only [hw, if_true] at h
    exact upon_imp (fun a w ⟨h1, h2⟩ => ⟨h1, hK _ _ h1 h2⟩) (fun _ _ h => h) (fun h => h) h
  · rename_i hw
    simp only [hw, Bool.false_eq_true, if_false] at h
    exact hK _ _ hC h

theorem wpAnyX_planM {E : List Nat} (hs : Region.noSelect ops = true) (hQ : ∀ c (a : Act) w d v, Q (.panic c) (a.put d v) w → Q (.panic c) a w) (hQ' : ∀ c (a : Act) w d v, Q (.panic c) a w → Q (.panic c) (a.put d v) w) :
    ∀ (p : PlanM) (listed : Array Bool) (a : Act) (w : World), C w → RgClosed ops listed → goPM ops (masks ops) E p listed = true → wpPM P ops C Q E.contains p a w → wpAnyX P ops C Q E.contains (fun _ => false) p.fuel listed a w := by
  intro p
  induction p with
  | done => intro listed a w _ _ hB h; exact ⟨by simpa [goPM] using hB, h⟩
  | take k p ih =>
    intro listed a w hC hcl hB h
    simp only [goPM, Bool.and_eq_true] at hB
    obtain ⟨⟨⟨hr, hf⟩, hE⟩, hB'⟩ := hB
    have hr : k ∈ Region.ready .any ops listed := by simpa using hr
    obtain ⟨_, o, h0, _⟩ := mem_ready.1 hr
    have hcl' := hcl.set hr
    have h := h o h0
    cases he : E.contains k with
    | false =>
      have h' := h
      unfold stepX at h'
      simp only [he, Bool.false_eq_true, if_false] at h'
      obtain ⟨v, hy, hK⟩ := h'
      exact firstQ h0 he (Region.noSelect_spec hs) hQ p.fuel listed a w (Region.free_spec h0 hf) hr hy (ih _ _ _ hC hcl' hB' hK)
    | true =>
      simp only [he, Bool.not_true, Bool.false_or] at hE
      refine firstF (F := [k]) (List.mem_singleton_self k) (fun i hi => by have := List.mem_singleton.1 hi; subst this; exact ⟨he, rfl⟩) (Region.noSelect_spec hs) hQ' p.fuel listed a w hC hcl ?_ (waits_specM hE) (fun i hi => by have := List.mem_singleton.1 hi; subst this; exact hr) ?_
      · intro i hi oi hoi
        have := List.mem_singleton.1 hi; subst this
        exact Region.free_spec hoi hf
      · intro i hi oi hoi
        have := List.mem_singleton.1 hi; subst this
        obtain rfl : o = oi := Option.some.inj (h0.symm.trans hoi)
        exact stepX_wpM he hC (fun a w hC' hK => ih _ _ _ hC' hcl' hB' hK) h
  | fork i j p q ihp ihq =>
    intro listed a w hC hcl hB h
    simp only [goPM, Bool.and_eq_true, beq_iff_eq] at hB
    obtain ⟨⟨⟨⟨⟨⟨⟨⟨⟨hri, hrj⟩, hfi⟩, hfj⟩, hei⟩, hej⟩, hpq⟩, hw⟩, hBi⟩, hBj⟩ := hB
    have hri : i ∈ Region.ready .any ops listed := by simpa using hri
    have hrj : j ∈ Region.ready .any ops listed := by simpa using hrj
    refine firstF (F := [i, j]) (i0 := i) (by simp) ?_ (Region.noSelect_spec hs) hQ' p.fuel listed a w hC hcl ?_ (waits_specM hw) ?_ ?_
    · intro k hk
      simp only [List.mem_cons, List.not_mem_nil, or_false] at hk
      rcases hk with rfl | rfl
      · exact ⟨hei, rfl⟩
      · exact ⟨hej, rfl⟩
    · intro k hk oi hoi
      simp only [List.mem_cons, List.not_mem_nil, or_false] at hk
      rcases hk with rfl | rfl
      · exact Region.free_spec hoi hfi
      · exact Region.free_spec hoi hfj
    · intro k hk
      simp only [List.mem_cons, List.not_mem_nil, or_false] at hk
      rcases hk with rfl | rfl
      · exact hri
      · exact hrj
    · intro k hk oi hoi
      simp only [List.mem_cons, List.not_mem_nil, or_false] at hk
      by_cases hki : k = i
      · subst hki
        exact stepX_wpM hei hC (fun a w hC' hK => ihp _ _ _ hC' (hcl.set hri) hBi hK) (h.1 oi hoi)
      · obtain rfl : k = j := by rcases hk with h | h; exact absurd h hki; exact h
        refine stepX_wpM hej hC (fun a w hC' hK => ?_) (h.2 oi hoi)
        have := ihq _ _ _ hC' (hcl.set hrj) hBj hK
        rw [← hpq] at this
        exact this
  | part i j k p q r ihp ihq ihr =>
    intro listed a w hC hcl hB h
    simp only [goPM, Bool.and_eq_true, beq_iff_eq] at hB
    obtain ⟨⟨⟨⟨⟨⟨⟨hri, hrj⟩, hrk⟩, ⟨⟨hfi, hfj⟩, hfk⟩⟩, ⟨⟨hei, hej⟩, hek⟩⟩, ⟨hpq, hpr⟩⟩, hw⟩, ⟨⟨hBi, hBj⟩, hBk⟩⟩ := hB
    have hri : i ∈ Region.ready .any ops listed := by simpa using hri
    have hrj : j ∈ Region.ready .any ops listed := by simpa using hrj
    have hrk : k ∈ Region.ready .any ops listed := by simpa using hrk
    refine firstF (F := [i, j, k]) (i0 := i) (by simp) ?_ (Region.noSelect_spec hs) hQ' p.fuel listed a w hC hcl ?_ (waits_specM hw) ?_ ?_
    · intro m hm
      simp only [List.mem_cons, List.not_mem_nil, or_false] at hm
      rcases hm with rfl | rfl | rfl
      · exact ⟨hei, rfl⟩
      · exact ⟨hej, rfl⟩
      · exact ⟨hek, rfl⟩
    · intro m hm oi hoi
      simp only [List.mem_cons, List.not_mem_nil, or_false] at hm
      rcases hm with rfl | rfl | rfl
      · exact Region.free_spec hoi hfi
      · exact Region.free_spec hoi hfj
      · exact Region.free_spec hoi hfk
    · intro m hm
      simp only [List.mem_cons, List.not_mem_nil, or_false] at hm
      rcases hm with rfl | rfl | rfl
      · exact hri
      · exact hrj
      · exact hrk
    · intro m hm oi hoi
      simp only [List.mem_cons, List.not_mem_nil, or_false] at hm
      by_cases hmi : m = i
      · subst hmi
        exact stepX_wpM hei hC (fun a w hC' hK => ihp _ _ _ hC' (hcl.set hri) hBi hK) (h.1 oi hoi)
      · by_cases hmj : m = j
        · subst hmj
          refine stepX_wpM hej hC (fun a w hC' hK => ?_) (h.2.1 oi hoi)
          have := ihq _ _ _ hC' (hcl.set hrj) hBj hK
          rw [← hpq] at this
          exact this
        · obtain rfl : m = k := by rcases hm with h | h | h; exact absurd h hmi; exact absurd h hmj; exact h
          refine stepX_wpM hek hC (fun a w hC' hK => ?_) (h.2.2 oi hoi)
          have := ihr _ _ _ hC' (hcl.set hrk) hBk hK
          rw [← hpr] at this
          exact this

/-- THE WALK ALONG A PLAN -/
def wpVM (P : Program) (ops : Array Oper) (C : World → Prop) (Q : Exit → Act → World → Prop) (E : List Nat) : PlanM → Act → World → Prop
  | .done, a, w => Q .normal a w
  | .take k p, a, w => ∀ o, ops[k]? = some o →
    if E.contains k then wpList P ops (Exit.then (fun a' w' => C w' ∧ wpVM P ops C Q E p a' w') (QE fun _ _ => False)) [o] a w
    else valKind o.op = true ∧ wpQuiet P ops C (fun a' => wpVM P ops C Q E p a' w) [o] a
  | .fork i j p q, a, w => (∀ o, ops[i]? = some o → wpList P ops (Exit.then (fun a' w' => C w' ∧ wpVM P ops C Q E p a' w') (QE fun _ _ => False)) [o] a w) ∧
      (∀ o, ops[j]? = some o → wpList P ops (Exit.then (fun a' w' => C w' ∧ wpVM P ops C Q E q a' w') (QE fun _ _ => False)) [o] a w)
  | .part i j k p q r, a, w => (∀ o, ops[i]? = some o → wpList P ops (Exit.then (fun a' w' => C w' ∧ wpVM P ops C Q E p a' w') (QE fun _ _ => False)) [o] a w) ∧
      (∀ o, ops[j]? = some o → wpList P ops (Exit.then (fun a' w' => C w' ∧ wpVM P ops C Q E q a' w') (QE fun _ _ => False)) [o] a w) ∧
      (∀ o, ops[k]? = some o → wpList P ops (Exit.then (fun a' w' => C w' ∧ wpVM P ops C Q E r a' w') (QE fun _ _ => False)) [o] a w)

section
variable {E : List Nat} {a : Act} {w : World} {k i j : Nat} {o oi oj ok : Oper} {p q r : PlanM}
theorem wpVM_done (h : Q .normal a w) : wpVM P ops C Q E .done a w := h
/-- an operation that only yields a value -/
theorem wpVM_q (ho : ops[k]? = some o) (he : E.contains k = false) (hv : valKind o.op = true) (h : wpQuiet P ops C (fun a' => wpVM P ops C Q E p a' w) [o] a) : wpVM P ops C Q E (.take k p) a w := by
  intro o' ho'
  obtain rfl : o = o' := Option.some.inj (ho.symm.trans ho')
  rw [he]; exact ⟨hv, h⟩
/-- an effect -/
theorem wpVM_e (ho : ops[k]? = some o) (he : E.contains k = true) (h : wpList P ops (Exit.then (fun a' w' => C w' ∧ wpVM P ops C Q E p a' w') (QE fun _ _ => False)) [o] a w) : wpVM P ops C Q E (.take k p) a w := by
  intro o' ho'
  obtain rfl : o = o' := Option.some.inj (ho.symm.trans ho')
  rw [he]; exact h
/-- either of two effects -/
theorem wpVM_fork (hi : ops[i]? = some oi) (hj : ops[j]? = some oj) (h1 : wpList P ops (Exit.then (fun a' w' => C w' ∧ wpVM P ops C Q E p a' w') (QE fun _ _ => False)) [oi] a w) (h2 : wpList P ops (Exit.then (fun a' w' => C w' ∧ wpVM P ops C Q E q a' w') (QE fun _ _ => False)) [oj] a w) :
    wpVM P ops C Q E (.fork i j p q) a w := by
  refine ⟨fun o' ho' => ?_, fun o' ho' => ?_⟩
  · obtain rfl : oi = o' := Option.some.inj (hi.symm.trans ho'); exact h1
  · obtain rfl : oj = o' := Option.some.inj (hj.symm.trans ho'); exact h2
/-- either of three effects -/
theorem wpVM_part (hi : ops[i]? = some oi) (hj : ops[j]? = some oj) (hk : ops[k]? = some ok) (h1 : (wpList P ops (Exit.then (fun a' w' => C w' ∧ wpVM P ops C Q E p a' w') (QE fun _ _ => False)) [oi] a w)) (h2 : (wpList P ops (Exit.then (fun a' w' => C w' ∧ wpVM P ops C Q E q a' w') (QE fun _ _ => False)) [oj] a w)) (h3 : (wpList P ops (Exit.then (fun a' w' => C w' ∧ wpVM P ops C Q E r a' w') (QE fun _ _ => False)) [ok] a w)) :
    wpVM P ops C Q E (.part i j k p q r) a w := by
  refine ⟨fun o' ho' => ?_, fun o' ho' => ?_, fun o' ho' => ?_⟩
  · obtain rfl : oi = o' := Option.some.inj (hi.symm.trans ho'); exact h1
  · obtain rfl : oj = o' := Option.some.inj (hj.symm.trans ho'); exact h2
  · obtain rfl : ok = o' := Option.some.inj (hk.symm.trans ho'); exact h3
end

theorem step_of_listM {E : List Nat} {k : Nat} {o : Oper} {K K' : Act → World → Prop} {a : Act} {w : World} (he : E.contains k = true) (hK : ∀ a w, C w → K a w → K' a w) (h : wpList P ops (Exit.then (fun a' w' => C w' ∧ K a' w') (QE fun _ _ => False)) [o] a w) :
    stepX P ops C Q E.contains (fun _ => false) k o K' a w := by
  unfold stepX
  simp only [he, if_true]
  simp only [wpList] at h
  split
  · rename_i hw
    simp only [hw, if_true] at h
    rcases h with h | ⟨_, a₀, w₀, h⟩
    · refine upon_imp (fun a' w' h' => ⟨h'.1, hK _ _ h'.1 h'.2⟩) (fun c w' h' => (h' : False).elim) (fun ⟨a₀, w₀, h'⟩ => (h' : False).elim) h
    · exact (h : False).elim
  · rename_i hw
    simp only [hw, Bool.false_eq_true, if_false] at h
    exact hK _ _ h.1 h.2

theorem wpPM_of_V {E : List Nat} : ∀ (p : PlanM) (a : Act) (w : World), goEM E p = true → C w → wpVM P ops C Q E p a w → wpPM P ops C Q E.contains p a w := by
  intro p
  induction p with
  | done => intro a w _ _ h; exact h
  | take k p ih =>
    intro a w hg hC h o ho
    have h := h o ho
    cases he : E.contains k with
    | true =>
      simp only [he, if_true] at h
      exact step_of_listM he (fun a w hC h => ih a w hg hC h) h
    | false =>
      simp only [he, Bool.false_eq_true, if_false] at h
      unfold stepX
      simp only [he, Bool.false_eq_true, if_false]
      obtain ⟨hv, h⟩ := h
      simp only [wpQuiet] at h
      split at h
      · rename_i hw
        obtain ⟨v, h1, h2⟩ := h
        refine ⟨v, .inl ⟨hw, fun w' hC' => ?_⟩, ih _ w hg hC h2⟩
        have h3 := h1 w' hC'
        unfold Oper.quietAt at h3
        cases hr : (execOp a.eval o).run P w' with
        | halt x w1 => rw [hr] at h3; exact (h3 : False).elim
        | ok n w1 =>
          obtain ⟨u, rfl⟩ := valKind_run hv hr
          rw [hr] at h3
          obtain ⟨rfl, rfl⟩ := h3
          rfl
      · rename_i hw
        exact ⟨undef, .inr ⟨by simpa using hw, rfl⟩, ih _ w hg hC h⟩
  | fork i j p q ihp ihq =>
    intro a w hg hC h
    simp only [goEM, Bool.and_eq_true] at hg
    obtain ⟨⟨⟨hei, hej⟩, hgp⟩, hgq⟩ := hg
    exact ⟨fun o ho => step_of_listM hei (fun a w hC h => ihp a w hgp hC h) (h.1 o ho), fun o ho => step_of_listM hej (fun a w hC h => ihq a w hgq hC h) (h.2 o ho)⟩
  | part i j k p q r ihp ihq ihr =>
    intro a w hg hC h
    simp only [goEM, Bool.and_eq_true] at hg
    obtain ⟨⟨⟨hei, hej⟩, hek⟩, ⟨⟨hgp, hgq⟩, hgr⟩⟩ := hg
    exact ⟨fun o ho => step_of_listM hei (fun a w hC h => ihp a w hgp hC h) (h.1 o ho), fun o ho => step_of_listM hej (fun a w hC h => ihq a w hgq hC h) (h.2.1 o ho), fun o ho => step_of_listM hek (fun a w hC h => ihr a w hgr hC h) (h.2.2 o ho)⟩

/-- A REGION THAT DRAWS ITS ORDER, along a plan. E: the places of its effects; C: a class of worlds that the effects keep. -/
theorem wp_region_planM {id : Nat} {l : List Oper} (E : List Nat) (p : PlanM) (C : World → Prop) {Q : Exit → Act → World → Prop} {a : Act} {w : World} (hm : P.follows .mixedOrders = true) (hB : (regPM l.toArray E p && goEM E p) = true)
    (hQ : ∀ c (a : Act) w d v, Q (.panic c) (a.put d v) w → Q (.panic c) a w) (hQ' : ∀ c (a : Act) w d v, Q (.panic c) a w → Q (.panic c) (a.put d v) w) (hC : C w.drew)
    (h : wpVM P l.toArray C Q E p a w.drew) : (Code.region id l.toArray true).wp P Q a w := by
  simp only [regPM, Bool.and_eq_true, beq_iff_eq] at hB
  obtain ⟨⟨⟨hns, hfu⟩, hgo⟩, hge⟩ := hB
  refine wp_region_any hm (wpAny_of_X (C := C) (eff := E.contains) (pan := fun _ => false) _ _ _ _ hC ?_)
  have := wpAnyX_planM (C := C) (E := E) hns hQ hQ' p (Array.replicate l.toArray.size false) a w.drew hC
    ⟨by simp, fun j o _ hl => by rw [getD_rep] at hl; cases hl⟩ hgo (wpPM_of_V p a w.drew hge hC h)
  rw [hfu] at this
  simpa using this
end
end Go.Proofs.Ytelepohdfcjnfaa
