/-
  The law of RegionX along a plan: a tree of orders, which parts where two effects wait for one another in no way. No program of the seat here.
-/
import Derived.Test.YtelepohdfcjnfaaRegionX
namespace Go.Proofs.Ytelepohdfcjnfaa
section
variable {P : Program} {ops : Array Oper} {C : World → Prop} {Q : Exit → Act → World → Prop} {eff pan : Nat → Bool}

/-- effects that may all come up now may be taken first, each in its turn, if all other effects wait for one of them -/
theorem firstF {F : List Nat} {i0 : Nat} (hi0 : i0 ∈ F) (hF : ∀ i ∈ F, eff i = true ∧ pan i = false) (hsel : ∀ (j : Nat) (o : Oper) cs b, ops[j]? = some o → o.op ≠ .select cs b)
    (hQ' : ∀ c (a : Act) w d v, Q (.panic c) a w → Q (.panic c) (a.put d v) w) :
    ∀ (fuel : Nat) (listed : Array Bool) (a : Act) (w : World), C w → RgClosed ops listed →
      (∀ i ∈ F, ∀ oi, ops[i]? = some oi → ∀ j oj, ops[j]? = some oj → j ≠ i → listed.getD j true = false → (∀ e ∈ oj.after, Region.binds .any e = true → e.on ≠ i) → oi.apart ops oj = true) →
      (∀ j, j ∉ F → listed.getD j true = false → eff j = true → j < ops.size → ∃ i ∈ F, RgReach ops j i) →
      (∀ i ∈ F, i ∈ Region.ready .any ops listed) →
      (∀ i ∈ F, ∀ oi, ops[i]? = some oi → stepX P ops C Q eff pan i oi (wpAnyX P ops C Q eff pan fuel (listed.setIfInBounds i true)) a w) → wpAnyX P ops C Q eff pan (fuel + 1) listed a w := by
  intro fuel
  induction fuel with
  | zero =>
    intro listed a w hC hcl _ hre hr H
    refine ⟨fun h => (by have := hr i0 hi0; rw [h] at this; cases this), fun j hj oj hoj => ?_⟩
    by_cases hjF : j ∈ F
    · exact H j hjF oj hoj
    · exfalso
      have hji : j ≠ i0 := fun e => hjF (e ▸ hi0)
      have hr1 := ready_mono hj hji
      obtain ⟨_, oi, hoi, _⟩ := mem_ready.1 (hr i0 hi0)
      have H0 := H i0 hi0 oi hoi
      obtain ⟨he, hp⟩ := hF i0 hi0
      unfold stepX at H0
      simp only [he, if_true] at H0
      have key : ∀ a w, ¬ wpAnyX P ops C Q eff pan 0 (listed.setIfInBounds i0 true) a w := fun a w h => by
        have := h.1; rw [this] at hr1; cases hr1
      split at H0
      · obtain ⟨a', w', v, ⟨_, hK⟩, _⟩ := extractX (fun c w ⟨h, _⟩ => by rw [hp] at h; cases h) H0
        exact key _ _ hK
      · exact key _ _ H0
  | succ fuel ih =>
    intro listed a w hC hcl hfree hre hr H
    refine ⟨fun h => (by have := hr i0 hi0; rw [h] at this; cases this), fun j hj oj hoj => ?_⟩
    by_cases hjF : j ∈ F
    · exact H j hjF oj hoj
    · obtain ⟨hjun, oj', hoj', hall⟩ := mem_ready.1 hj
      obtain rfl : oj = oj' := Option.some.inj (hoj.symm.trans hoj')
      have hlt := (Array.getElem?_eq_some_iff.1 hoj).1
      have hje : eff j = false := by
        cases h : eff j with
        | false => rfl
        | true =>
          obtain ⟨i, hiF, hrch⟩ := hre j hjF hjun h hlt
          exact absurd hj (reach_not_ready hcl hrch (mem_ready.1 (hr i hiF)).1)
      have hne : ∀ i ∈ F, j ≠ i := fun i hi e => hjF (e ▸ hi)
      have hap : ∀ i ∈ F, ∀ oi, ops[i]? = some oi → oi.apart ops oj = true := fun i hi oi hoi => hfree i hi oi hoi j oj hoj (hne i hi) hjun (fun e he hb heq => by
        have h1 := hall e he hb
        have h0 := (mem_ready.1 (hr i hi)).1
        rw [heq] at h1
        rcases Nat.lt_or_ge i listed.size with h' | h'
        · simp [h'] at h0 h1; rw [h0] at h1; cases h1
        · simp [Array.getElem?_eq_none h'] at h1)
      have hsj := fun cs b => hsel j oj cs b hoj
      -- j's value
      have hval : ∃ u, YX P ops C oj u a := by
        obtain ⟨_, oi, hoi, _⟩ := mem_ready.1 (hr i0 hi0)
        have H0 := H i0 hi0 oi hoi
        obtain ⟨he, hp⟩ := hF i0 hi0
        have hjr := ready_mono hj (hne i0 hi0)
        obtain ⟨g1, g2, g3⟩ := Oper.apart_spec (hap i0 hi0 oi hoi)
        unfold stepX at H0
        simp only [he, if_true] at H0
        split at H0
        · obtain ⟨a', w', v, ⟨_, hK⟩, ha⟩ := extractX (fun c w ⟨h, _⟩ => by rw [hp] at h; cases h) H0
          have h1 := hK.2 j hjr oj hoj
          unfold stepX at h1
          simp only [hje, Bool.false_eq_true, if_false] at h1
          obtain ⟨u, hu, _⟩ := h1
          rcases ha with rfl | ⟨q, rfl⟩
          · exact ⟨u, hu.unput hsj g1⟩
          · exact ⟨u, (hu.unput hsj g1).defers⟩
        · have h1 := H0.2 j hjr oj hoj
          unfold stepX at h1
          simp only [hje, Bool.false_eq_true, if_false] at h1
          obtain ⟨u, hu, _⟩ := h1
          exact ⟨u, hu.unput hsj g1⟩
      obtain ⟨u, hu⟩ := hval
      unfold stepX
      simp only [hje, Bool.false_eq_true, if_false]
      refine ⟨u, hu, ih (listed.setIfInBounds j true) (a.put oj.dst u) w hC (hcl.set hj) ?_ ?_ (fun i hi => ready_mono (hr i hi) (Ne.symm (hne i hi))) ?_⟩
      · intro i hi oi hoi k ok hk hki hun hno
        refine hfree i hi oi hoi k ok hk hki ?_ hno
        by_cases hjk : j = k
        · subst hjk; exact hjun
        · rw [getD_set_ne true hjk] at hun; exact hun
      · intro k hkF hun hef hk
        refine hre k hkF ?_ hef hk
        by_cases hjk : j = k
        · subst hjk; exact hjun
        · rw [getD_set_ne true hjk] at hun; exact hun
      · intro i hi oi hoi
        obtain ⟨he, hp⟩ := hF i hi
        have hji := hne i hi
        have hjr := ready_mono hj hji
        obtain ⟨g1, g2, g3⟩ := Oper.apart_spec (hap i hi oi hoi)
        have hsi := fun cs b => hsel i oi cs b hoi
        have H0 := H i hi oi hoi
        have cont : ∀ a' w', C w' → YX P ops C oj u a' → wpAnyX P ops C Q eff pan (fuel + 1) (listed.setIfInBounds i true) a' w' → wpAnyX P ops C Q eff pan fuel ((listed.setIfInBounds j true).setIfInBounds i true) (a'.put oj.dst u) w' := by
          intro a' w' hC' hu' hK
          have h1 := hK.2 j hjr oj hoj
          unfold stepX at h1
          simp only [hje, Bool.false_eq_true, if_false] at h1
          obtain ⟨u', hu2, hK'⟩ := h1
          obtain rfl := YX.uniq hC' hu' hu2
          rw [Array.setIfInBounds_comm _ _ hji]
          exact hK'
        unfold stepX at H0 ⊢
        simp only [he, if_true] at H0 ⊢
        rw [wanted_put oi a oj.dst u g3]
        have h2' : ∀ x, oj.dst = some x → oi.dst ≠ some x := fun x hx hx' => g2 x hx' hx
        split at H0
        · rename_i hw
          simp only [hw, if_true]
          refine wp_putX (K := fun a' w' => C w' ∧ wpAnyX P ops C Q eff pan fuel ((listed.setIfInBounds j true).setIfInBounds i true) a' w') (E := fun c w' => pan i = true ∧ Q (.panic c) a w') hsi g3 h2' (fun c w ⟨p, q⟩ => ⟨p, hQ' _ _ _ _ _ q⟩) ?_
          unfold Oper.wp at H0 ⊢
          generalize (execOp a.eval oi).run P w = r at H0 ⊢
          cases r with
          | ok n w' =>
            cases n <;> simp only [Oper.upon] at H0 ⊢
            case value v => exact ⟨H0.1, cont _ _ H0.1 (hu.put hsj g1) H0.2⟩
            case skip => exact ⟨H0.1, cont _ _ H0.1 (hu.put hsj g1) H0.2⟩
            case defer q => exact ⟨H0.1, cont _ _ H0.1 (hu.defers'.put hsj g1) H0.2⟩
            case enter f args =>
              refine Calls.mono H0 fun e w'' hE => ?_
              cases e with
              | returned v => exact ⟨hE.1, cont _ _ hE.1 (hu.put hsj g1) hE.2⟩
              | panicked c => exact hE
              | outgrown => exact hE
            case row row args => exact Rows.mono H0 fun v w'' hE => ⟨hE.1, cont _ _ hE.1 (hu.put hsj g1) hE.2⟩
          | halt x w' => cases x <;> simp only [Oper.upon] at H0 ⊢; exact H0
        · rename_i hw
          simp only [hw, Bool.false_eq_true, if_false]
          rw [← Act.put_comm a undef u g2]
          exact cont _ _ hC (hu.put hsj g1) H0

/-- in which order: an operation taken next; or either of two effects, and how it goes on behind each -/
inductive Plan where
  | done
  | take (k : Nat) (p : Plan)
  | fork (i j : Nat) (p q : Plan)

def Plan.seq (l : List Nat) (p : Plan) : Plan := l.foldr .take p

def Plan.fuel : Plan → Nat
  | .done => 0
  | .take _ p => p.fuel + 1
  | .fork _ _ p _ => p.fuel + 1

/-- every effect that is not yet done, but those of F, waits for one of F -/
def waits (ops : Array Oper) (ms : List (List Nat)) (E : List Nat) (F : List Nat) (listed : Array Bool) : Bool :=
  (List.range ops.size).all fun j => F.contains j || listed.getD j true || !E.contains j || F.any fun i => (ms.getD j []).contains i

def goP (ops : Array Oper) (ms : List (List Nat)) (E : List Nat) : Plan → Array Bool → Bool
  | .done, listed => (Region.ready .any ops listed).isEmpty
  | .take k p, listed => (Region.ready .any ops listed).contains k && Region.free .any ops listed k && (!E.contains k || waits ops ms E [k] listed) && goP ops ms E p (listed.setIfInBounds k true)
  | .fork i j p q, listed => (Region.ready .any ops listed).contains i && (Region.ready .any ops listed).contains j && Region.free .any ops listed i && Region.free .any ops listed j && E.contains i && E.contains j && (p.fuel == q.fuel) &&
      waits ops ms E [i, j] listed && goP ops ms E p (listed.setIfInBounds i true) && goP ops ms E q (listed.setIfInBounds j true)

def regP (ops : Array Oper) (E : List Nat) (p : Plan) : Bool := Region.noSelect ops && (p.fuel == ops.size) && goP ops (masks ops) E p (Array.replicate ops.size false)

/-- what parts is an effect -/
def goE (E : List Nat) : Plan → Bool
  | .done => true
  | .take _ p => goE E p
  | .fork i j p q => E.contains i && E.contains j && goE E p && goE E q

def wpP (P : Program) (ops : Array Oper) (C : World → Prop) (Q : Exit → Act → World → Prop) (eff : Nat → Bool) : Plan → Act → World → Prop
  | .done, a, w => Q .normal a w
  | .take k p, a, w => ∀ o, ops[k]? = some o → stepX P ops C Q eff (fun _ => false) k o (wpP P ops C Q eff p) a w
  | .fork i j p q, a, w => (∀ o, ops[i]? = some o → stepX P ops C Q eff (fun _ => false) i o (wpP P ops C Q eff p) a w) ∧ (∀ o, ops[j]? = some o → stepX P ops C Q eff (fun _ => false) j o (wpP P ops C Q eff q) a w)

theorem waits_spec {E F : List Nat} {listed : Array Bool} (h : waits ops (masks ops) E F listed = true) : ∀ j, j ∉ F → listed.getD j true = false → E.contains j = true → j < ops.size → ∃ i ∈ F, RgReach ops j i := by
  intro j hjF hun he hlt
  simp only [waits, List.all_eq_true, List.mem_range] at h
  have h1 := h j hlt
  have e1 : F.contains j = false := by rw [Bool.eq_false_iff]; intro h; exact hjF (List.contains_iff_mem.1 h)
  simp only [e1, hun, he, Bool.or_false, Bool.false_or, Bool.not_true, List.any_eq_true] at h1
  obtain ⟨i, hi, hm⟩ := h1
  refine ⟨i, hi, masks_sound ops.toList 0 [] (by simp) rfl (fun j i h => by simp at h) j i ?_⟩
  simpa [masks] using hm

theorem stepX_wp {i : Nat} {o : Oper} {K K' : Act → World → Prop} {a : Act} {w : World} (he : eff i = true) (hC : C w) (hK : ∀ a w, C w → K a w → K' a w) (h : stepX P ops C Q eff pan i o K a w) : stepX P ops C Q eff pan i o K' a w := by
  unfold stepX at h ⊢
  simp only [he, if_true] at h ⊢
  split
  · rename_i hw
    simp only [hw, if_true] at h
    exact upon_imp (fun a w ⟨h1, h2⟩ => ⟨h1, hK _ _ h1 h2⟩) (fun _ _ h => h) (fun h => h) h
  · rename_i hw
    simp only [hw, Bool.false_eq_true, if_false] at h
    exact hK _ _ hC h

theorem wpAnyX_plan {E : List Nat} (hs : Region.noSelect ops = true) (hQ : ∀ c (a : Act) w d v, Q (.panic c) (a.put d v) w → Q (.panic c) a w) (hQ' : ∀ c (a : Act) w d v, Q (.panic c) a w → Q (.panic c) (a.put d v) w) :
    ∀ (p : Plan) (listed : Array Bool) (a : Act) (w : World), C w → RgClosed ops listed → goP ops (masks ops) E p listed = true → wpP P ops C Q E.contains p a w → wpAnyX P ops C Q E.contains (fun _ => false) p.fuel listed a w := by
  intro p
  induction p with
  | done => intro listed a w _ _ hB h; exact ⟨by simpa [goP] using hB, h⟩
  | take k p ih =>
    intro listed a w hC hcl hB h
    simp only [goP, Bool.and_eq_true] at hB
    obtain ⟨⟨⟨hr, hf⟩, hE⟩, hB'⟩ := hB
    have hr : k ∈ Region.ready .any ops listed := by simpa using hr
    obtain ⟨_, o, h0, _⟩ := mem_ready.1 hr
    have hcl' := hcl.set hr
    have h := h o h0
    cases he : E.contains k with
    | false =>
      have h' := h
      unfold stepX at h'
      simp only [he, Bool.false_eq_true, if_false] at h'
      obtain ⟨v, hy, hK⟩ := h'
      exact firstQ h0 he (Region.noSelect_spec hs) hQ p.fuel listed a w (Region.free_spec h0 hf) hr hy (ih _ _ _ hC hcl' hB' hK)
    | true =>
      simp only [he, Bool.not_true, Bool.false_or] at hE
      refine firstF (F := [k]) (List.mem_singleton_self k) (fun i hi => by have := List.mem_singleton.1 hi; subst this; exact ⟨he, rfl⟩) (Region.noSelect_spec hs) hQ' p.fuel listed a w hC hcl ?_ (waits_spec hE) (fun i hi => by have := List.mem_singleton.1 hi; subst this; exact hr) ?_
      · intro i hi oi hoi
        have := List.mem_singleton.1 hi; subst this
        exact Region.free_spec hoi hf
      · intro i hi oi hoi
        have := List.mem_singleton.1 hi; subst this
        obtain rfl : o = oi := Option.some.inj (h0.symm.trans hoi)
        exact stepX_wp he hC (fun a w hC' hK => ih _ _ _ hC' hcl' hB' hK) h
  | fork i j p q ihp ihq =>
    intro listed a w hC hcl hB h
    simp only [goP, Bool.and_eq_true, beq_iff_eq] at hB
    obtain ⟨⟨⟨⟨⟨⟨⟨⟨⟨hri, hrj⟩, hfi⟩, hfj⟩, hei⟩, hej⟩, hpq⟩, hw⟩, hBi⟩, hBj⟩ := hB
    have hri : i ∈ Region.ready .any ops listed := by simpa using hri
    have hrj : j ∈ Region.ready .any ops listed := by simpa using hrj
    refine firstF (F := [i, j]) (i0 := i) (by simp) ?_ (Region.noSelect_spec hs) hQ' p.fuel listed a w hC hcl ?_ (waits_spec hw) ?_ ?_
    · intro k hk
      simp only [List.mem_cons, List.not_mem_nil, or_false] at hk
      rcases hk with rfl | rfl
      · exact ⟨hei, rfl⟩
      · exact ⟨hej, rfl⟩
    · intro k hk oi hoi
      simp only [List.mem_cons, List.not_mem_nil, or_false] at hk
      rcases hk with rfl | rfl
      · exact Region.free_spec hoi hfi
      · exact Region.free_spec hoi hfj
    · intro k hk
      simp only [List.mem_cons, List.not_mem_nil, or_false] at hk
      rcases hk with rfl | rfl
      · exact hri
      · exact hrj
    · intro k hk oi hoi
      simp only [List.mem_cons, List.not_mem_nil, or_false] at hk
      by_cases hki : k = i
      · subst hki
        exact stepX_wp hei hC (fun a w hC' hK => ihp _ _ _ hC' (hcl.set hri) hBi hK) (h.1 oi hoi)
      · obtain rfl : k = j := by rcases hk with h | h; exact absurd h hki; exact h
        refine stepX_wp hej hC (fun a w hC' hK => ?_) (h.2 oi hoi)
        have := ihq _ _ _ hC' (hcl.set hrj) hBj hK
        rw [← hpq] at this
        exact this

/-- THE WALK ALONG A PLAN -/
def wpV (P : Program) (ops : Array Oper) (C : World → Prop) (Q : Exit → Act → World → Prop) (E : List Nat) : Plan → Act → World → Prop
  | .done, a, w => Q .normal a w
  | .take k p, a, w => ∀ o, ops[k]? = some o →
    if E.contains k then wpList P ops (Exit.then (fun a' w' => C w' ∧ wpV P ops C Q E p a' w') (QE fun _ _ => False)) [o] a w
    else valKind o.op = true ∧ wpQuiet P ops C (fun a' => wpV P ops C Q E p a' w) [o] a
  | .fork i j p q, a, w => (∀ o, ops[i]? = some o → wpList P ops (Exit.then (fun a' w' => C w' ∧ wpV P ops C Q E p a' w') (QE fun _ _ => False)) [o] a w) ∧
      (∀ o, ops[j]? = some o → wpList P ops (Exit.then (fun a' w' => C w' ∧ wpV P ops C Q E q a' w') (QE fun _ _ => False)) [o] a w)

section
variable {E : List Nat} {a : Act} {w : World} {k i j : Nat} {o oi oj : Oper} {p q : Plan}
theorem wpV_done (h : Q .normal a w) : wpV P ops C Q E .done a w := h
/-- an operation that only yields a value -/
theorem wpV_q (ho : ops[k]? = some o) (he : E.contains k = false) (hv : valKind o.op = true) (h : wpQuiet P ops C (fun a' => wpV P ops C Q E p a' w) [o] a) : wpV P ops C Q E (.take k p) a w := by
  intro o' ho'
  obtain rfl : o = o' := Option.some.inj (ho.symm.trans ho')
  rw [he]; exact ⟨hv, h⟩
/-- an effect -/
theorem wpV_e (ho : ops[k]? = some o) (he : E.contains k = true) (h : wpList P ops (Exit.then (fun a' w' => C w' ∧ wpV P ops C Q E p a' w') (QE fun _ _ => False)) [o] a w) : wpV P ops C Q E (.take k p) a w := by
  intro o' ho'
  obtain rfl : o = o' := Option.some.inj (ho.symm.trans ho')
  rw [he]; exact h
/-- either of two effects -/
theorem wpV_fork (hi : ops[i]? = some oi) (hj : ops[j]? = some oj) (h1 : wpList P ops (Exit.then (fun a' w' => C w' ∧ wpV P ops C Q E p a' w') (QE fun _ _ => False)) [oi] a w) (h2 : wpList P ops (Exit.then (fun a' w' => C w' ∧ wpV P ops C Q E q a' w') (QE fun _ _ => False)) [oj] a w) :
    wpV P ops C Q E (.fork i j p q) a w := by
  refine ⟨fun o' ho' => ?_, fun o' ho' => ?_⟩
  · obtain rfl : oi = o' := Option.some.inj (hi.symm.trans ho'); exact h1
  · obtain rfl : oj = o' := Option.some.inj (hj.symm.trans ho'); exact h2
end

theorem step_of_list {E : List Nat} {k : Nat} {o : Oper} {K K' : Act → World → Prop} {a : Act} {w : World} (he : E.contains k = true) (hK : ∀ a w, C w → K a w → K' a w) (h : wpList P ops (Exit.then (fun a' w' => C w' ∧ K a' w') (QE fun _ _ => False)) [o] a w) :
    stepX P ops C Q E.contains (fun _ => false) k o K' a w := by
  unfold stepX
  simp only [he, if_true]
  simp only [wpList] at h
  split
  · rename_i hw
    simp only [hw, if_true] at h
    rcases h with h | ⟨_, a₀, w₀, h⟩
    · refine upon_imp (fun a' w' h' => ⟨h'.1, hK _ _ h'.1 h'.2⟩) (fun c w' h' => (h' : False).elim) (fun ⟨a₀, w₀, h'⟩ => (h' : False).elim) h
    · exact (h : False).elim
  · rename_i hw
    simp only [hw, Bool.false_eq_true, if_false] at h
    exact hK _ _ h.1 h.2

theorem wpP_of_V {E : List Nat} : ∀ (p : Plan) (a : Act) (w : World), goE E p = true → C w → wpV P ops C Q E p a w → wpP P ops C Q E.contains p a w := by
  intro p
  induction p with
  | done => intro a w _ _ h; exact h
  | take k p ih =>
    intro a w hg hC h o ho
    have h := h o ho
    cases he : E.contains k with
    | true =>
      simp only [he, if_true] at h
      exact step_of_list he (fun a w hC h => ih a w hg hC h) h
    | false =>
      simp only [he, Bool.false_eq_true, if_false] at h
      unfold stepX
      simp only [he, Bool.false_eq_true, if_false]
      obtain ⟨hv, h⟩ := h
      simp only [wpQuiet] at h
      split at h
      · rename_i hw
        obtain ⟨v, h1, h2⟩ := h
        refine ⟨v, .inl ⟨hw, fun w' hC' => ?_⟩, ih _ w hg hC h2⟩
        have h3 := h1 w' hC'
        unfold Oper.quietAt at h3
        cases hr : (execOp a.eval o).run P w' with
        | halt x w1 => rw [hr] at h3; exact (h3 : False).elim
        | ok n w1 =>
          obtain ⟨u, rfl⟩ := valKind_run hv hr
          rw [hr] at h3
          obtain ⟨rfl, rfl⟩ := h3
          rfl
      · rename_i hw
        exact ⟨undef, .inr ⟨by simpa using hw, rfl⟩, ih _ w hg hC h⟩
  | fork i j p q ihp ihq =>
    intro a w hg hC h
    simp only [goE, Bool.and_eq_true] at hg
    obtain ⟨⟨⟨hei, hej⟩, hgp⟩, hgq⟩ := hg
    exact ⟨fun o ho => step_of_list hei (fun a w hC h => ihp a w hgp hC h) (h.1 o ho), fun o ho => step_of_list hej (fun a w hC h => ihq a w hgq hC h) (h.2 o ho)⟩

/-- A REGION THAT DRAWS ITS ORDER, along a plan. E: the places of its effects; C: a class of worlds that the effects keep. -/
theorem wp_region_plan {id : Nat} {l : List Oper} (E : List Nat) (p : Plan) (C : World → Prop) {Q : Exit → Act → World → Prop} {a : Act} {w : World} (hm : P.follows .mixedOrders = true) (hB : (regP l.toArray E p && goE E p) = true)
    (hQ : ∀ c (a : Act) w d v, Q (.panic c) (a.put d v) w → Q (.panic c) a w) (hQ' : ∀ c (a : Act) w d v, Q (.panic c) a w → Q (.panic c) (a.put d v) w) (hC : C w.drew)
    (h : wpV P l.toArray C Q E p a w.drew) : (Code.region id l.toArray true).wp P Q a w := by
  simp only [regP, Bool.and_eq_true, beq_iff_eq] at hB
  obtain ⟨⟨⟨hns, hfu⟩, hgo⟩, hge⟩ := hB
  refine wp_region_any hm (wpAny_of_X (C := C) (eff := E.contains) (pan := fun _ => false) _ _ _ _ hC ?_)
  have := wpAnyX_plan (C := C) (E := E) hns hQ hQ' p (Array.replicate l.toArray.size false) a w.drew hC
    ⟨by simp, fun j o _ hl => by rw [getD_rep] at hl; cases hl⟩ hgo (wpP_of_V p a w.drew hge hC h)
  rw [hfu] at this
  simpa using this
end
end Go.Proofs.Ytelepohdfcjnfaa
