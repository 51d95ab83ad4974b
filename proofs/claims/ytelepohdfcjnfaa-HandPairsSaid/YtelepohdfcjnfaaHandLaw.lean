/-
  What the acts of a hand do to who is active and asked.
-/
import Derived.Test.YtelepohdfcjnfaaRefHandSpec
namespace Go.Proofs.Ytelepohdfcjnfaa
open Go.RowKit Go.Proofs

/-- a hand by itself -/
def HI (h : Hd) : Prop := HInv h ⟨h.v, h.asked⟩
theorem HInv.hi {h : Hd} {g : Rh} (k : HInv h g) : HI h := ⟨⟨rfl, List.Perm.refl _, List.Perm.refl _, rfl, rfl⟩, List.Perm.refl _, k.good, k.sane, k.self⟩
theorem sAdd_iff {l : List Int} {m n : Int} (h : sAddOk l m n = true) (x : Int) : x ∈ sAdd l m n ↔ x = n ∨ x ∈ l := by
  constructor
  · exact fun hx => sAdd_sub hx
  · rintro (rfl | hx)
    · exact sAdd_has h
    · exact sAdd_sup hx
/-- what taking a node in does -/
structure Took (h : Hd) (n : Int) (h' : Hd) (o : List Ho) : Prop where
  hi : HI h'
  self : h'.v.self = h.v.self
  am : h'.v.am = h.v.am
  has : n ∈ h'.v.act
  way : (n ∈ h.v.act ∧ h' = h ∧ o = []) ∨
    (n ∉ h.v.act ∧ vaFull h.v = false ∧ o = [] ∧ h'.asked = h.asked ∧ ∀ x, x ∈ h'.v.act ↔ x = n ∨ x ∈ h.v.act) ∨
    (n ∉ h.v.act ∧ vaFull h.v = true ∧ ∃ old, old ∈ h.v.act ∧ old ≠ n ∧ o = [⟨old, 6, false⟩] ∧ h'.asked = sDrop h.asked old ∧ ∀ x, x ∈ h'.v.act ↔ x = n ∨ (x ∈ h.v.act ∧ x ≠ old))
theorem hTake_law {h : Hd} (hi : HI h) {n : Int} (hn : 1 ≤ n ∧ n ≤ 65535) (hs : n ≠ h.v.self) (ha : 0 < h.v.am) {ds : List Int} (hr : ∀ x ∈ ds, 0 ≤ x ∧ x < 4294967296) :
    (hTake h n ds).2.2.1 = true ∧ Took h n (hTake h n ds).1 (hTake h n ds).2.1 := by
  obtain ⟨t1, -, -, t4⟩ := inv_take hi hn hs ha hr
  refine ⟨t4, ?_⟩
  have hH := t1.hi
  have hns : (n == h.v.self) = false := by simpa using hs
  unfold hTake at hH ⊢
  by_cases h1 : has h.v.act n = true
  · rw [if_pos h1] at hH ⊢
    have hm := (has_iff _ _).1 h1
    exact ⟨hH, rfl, rfl, hm, .inl ⟨hm, rfl, rfl⟩⟩
  · rw [if_neg h1] at hH ⊢
    have hm : n ∉ h.v.act := fun e => h1 ((has_iff _ _).2 e)
    by_cases h2 : vaFull h.v = true
    · have hne : h.v.act ≠ [] := by
        intro e
        unfold vaFull at h2
        rw [e] at h2
        simp at h2
        omega
      have E := vEvict_facts hi.good.v hi.sane hr hne
      have hev : hEv h ds = vEvict h.v ds := by unfold hEv; rw [if_pos h2]
      have hev2 : hEvs h n ds = true := by unfold hEvs; rw [hev, E.ok, hns]; rfl
      have hl : ((vEvict h.v ds).1.act.length : Int) < (vEvict h.v ds).1.am := by
        have := E.len
        have := hi.good.v.act.fit
        rw [E.am]
        omega
      have hjo : vJoinOk (vEvict h.v ds).1 n = true := join_ok hn (by rw [E.self]; exact hs) hl
      have hadd : sAddOk (vEvict h.v ds).1.act (vEvict h.v ds).1.am n = true := by
        unfold vJoinOk at hjo
        simp only [Bool.and_eq_true] at hjo
        exact hjo.1
      unfold hRoomV hRoomA hRoomO at hH ⊢
      rw [if_pos hev2, if_pos hev2, if_pos hev2, hev, if_pos hjo] at hH ⊢
      have hact : (vJoin (vEvict h.v ds).1 n).act = sAdd (vEvict h.v ds).1.act (vEvict h.v ds).1.am n := by unfold vJoin; rw [if_pos hjo]
      refine ⟨hH, ?_, ?_, ?_, .inr (.inr ⟨hm, h2, (vEvict h.v ds).2.1, E.was, fun e => hm (e ▸ E.was), rfl, rfl, fun x => ?_⟩)⟩
      · simp only [(vJoin_am _ n).1, E.self]
      · simp only [(vJoin_am _ n).2.1, E.am]
      · simp only [hact]
        exact (sAdd_iff hadd n).2 (.inl rfl)
      · simp only [hact]
        rw [sAdd_iff hadd, E.act, sDrop_mem hi.good.v.act.up]
    · have hev : hEv h ds = (h.v, 0, false, ds) := by unfold hEv; rw [if_neg h2]
      have hev2 : hEvs h n ds = false := by unfold hEvs; rw [hev]; rfl
      have hl : (h.v.act.length : Int) < h.v.am := by
        unfold vaFull at h2
        simp only [decide_eq_true_eq] at h2
        omega
      have hjo : vJoinOk h.v n = true := join_ok hn hs hl
      have hadd : sAddOk h.v.act h.v.am n = true := by
        unfold vJoinOk at hjo
        simp only [Bool.and_eq_true] at hjo
        exact hjo.1
      unfold hRoomV hRoomA hRoomO at hH ⊢
      rw [hev2, hev] at hH ⊢
      simp only [Bool.false_eq_true, if_false, hjo, if_true] at hH ⊢
      have hact : (vJoin h.v n).act = sAdd h.v.act h.v.am n := by unfold vJoin; rw [if_pos hjo]
      refine ⟨hH, (vJoin_am _ n).1, (vJoin_am _ n).2.1, ?_, .inr (.inl ⟨hm, by simpa using h2, rfl, rfl, fun x => ?_⟩)⟩
      · simp only [hact]
        exact (sAdd_iff hadd n).2 (.inl rfl)
      · simp only [hact]
        exact sAdd_iff hadd x
/-- what an Ask that comes does -/
theorem hOnAsk_law {h : Hd} (hi : HI h) {n : Int} (hn : 1 ≤ n ∧ n ≤ 65535) (hs : n ≠ h.v.self) (ha : 0 < h.v.am) (high : Bool) {ds : List Int} (hr : ∀ x ∈ ds, 0 ≤ x ∧ x < 4294967296) :
    (∃ h' o, Took h n h' o ∧ (hOnAsk h n high ds).1 = h' ∧ (hOnAsk h n high ds).2.1 = o ++ [⟨n, 4, false⟩] ∧ (n ∈ h.v.act ∨ high = true ∨ vaFull h.v = false)) ∨
    (n ∉ h.v.act ∧ vaFull h.v = true ∧ high = false ∧ (hOnAsk h n high ds).1 = h ∧ (hOnAsk h n high ds).2.1 = [⟨n, 5, false⟩]) := by
  have hns : (n == h.v.self) = false := by simpa using hs
  unfold hOnAsk
  by_cases h1 : has h.v.act n = true
  · have hm := (has_iff _ _).1 h1
    rw [if_pos h1]
    exact .inl ⟨h, [], ⟨hi, rfl, rfl, hm, .inl ⟨hm, rfl, rfl⟩⟩, rfl, rfl, .inl hm⟩
  · have hm : n ∉ h.v.act := fun e => h1 ((has_iff _ _).2 e)
    rw [if_neg h1]
    have hmay : hMay h n high = (high || !vaFull h.v) := by
      unfold hMay
      rw [decide_eq_true hn.1, decide_eq_true hn.2, hns]
      rfl
    rw [hmay]
    obtain ⟨t1, t2⟩ := hTake_law hi hn hs ha hr
    cases hx : (high || !vaFull h.v)
    · right
      simp only [Bool.or_eq_false_iff, Bool.not_eq_false'] at hx
      exact ⟨hm, hx.2, hx.1, rfl, rfl⟩
    · left
      rw [if_pos rfl, if_pos t1]
      refine ⟨_, _, t2, rfl, rfl, .inr ?_⟩
      cases high
      · right
        simpa using hx
      · exact .inl rfl
theorem hAsk_law {h : Hd} (hi : HI h) (n : Int) (high : Bool) :
    (hAsk h n high = (⟨h.v, sAdd h.asked 64 n⟩, [⟨n, 3, high⟩]) ∧ n ∉ h.v.act ∧ n ∉ h.asked ∧ n ≠ h.v.self ∧ (∀ x, x ∈ sAdd h.asked 64 n ↔ x = n ∨ x ∈ h.asked) ∧ HI ⟨h.v, sAdd h.asked 64 n⟩) ∨ hAsk h n high = (h, []) := by
  have hk := (inv_ask hi n high).1.hi
  unfold hAsk at hk ⊢
  cases ha : hAsks h n
  · exact .inr rfl
  · left
    rw [ha, if_pos rfl] at hk
    unfold hAsks at ha
    simp only [Bool.and_eq_true, Bool.not_eq_true', beq_eq_false_iff_ne] at ha
    exact ⟨rfl, (has_no _ _).1 ha.1.1.2, (has_no _ _).1 ha.1.2, ha.1.1.1, fun x => sAdd_iff ha.2 x, hk⟩
theorem hAsks_of {h : Hd} {n : Int} (hn : 1 ≤ n ∧ n ≤ 65535) (hs : n ≠ h.v.self) (h1 : n ∉ h.v.act) (h2 : n ∉ h.asked) (hl : h.asked.length < 64) (high : Bool) : hAsk h n high = (⟨h.v, sAdd h.asked 64 n⟩, [⟨n, 3, high⟩]) := by
  unfold hAsk
  rw [if_pos]
  unfold hAsks sAddOk
  rw [(has_no _ _).2 h1, (has_no _ _).2 h2, decide_eq_true hn.1, decide_eq_true hn.2, decide_eq_true (show (h.asked.length : Int) < 64 by omega)]
  have : (n == h.v.self) = false := by simpa using hs
  rw [this]
  rfl
/-- the views that Bye and a break leave -/
theorem hOnBye_law {h : Hd} (hi : HI h) (n : Int) {ds : List Int} (hr : ∀ x ∈ ds, 0 ≤ x ∧ x < 4294967296) :
    HI (hOnBye h n ds).1 ∧ (hOnBye h n ds).1.v.self = h.v.self ∧ (hOnBye h n ds).1.v.am = h.v.am ∧ (hOnBye h n ds).1.asked = h.asked ∧ ∀ x, x ∈ (hOnBye h n ds).1.v.act ↔ x ∈ h.v.act ∧ x ≠ n := by
  obtain ⟨a, b, c, d⟩ := vLeave_am h.v n true ds
  refine ⟨(inv_onBye hi n hr).1.hi, a, b, rfl, fun x => ?_⟩
  unfold hOnBye
  simp only
  rw [d]
  split
  · exact sDrop_mem hi.good.v.act.up n x
  · rename_i hno
    exact ⟨fun hx => ⟨hx, fun e => hno ((has_iff _ _).2 (e ▸ hx))⟩, fun hx => hx.1⟩
theorem hOnNo_law {h : Hd} (hi : HI h) (n : Int) {ds : List Int} (hr : ∀ x ∈ ds, 0 ≤ x ∧ x < 4294967296) :
    HI (hOnNo h n ds).1 ∧ (hOnNo h n ds).1.v.self = h.v.self ∧ (hOnNo h n ds).1.v.am = h.v.am ∧ (∀ x, x ∈ (hOnNo h n ds).1.asked ↔ x ∈ h.asked ∧ x ≠ n) ∧ (∀ x, x ∈ (hOnNo h n ds).1.v.act ↔ x ∈ h.v.act ∧ x ≠ n) ∧
      (hOnNo h n ds).2.1 = (if has h.v.act n = true then [⟨n, 6, false⟩] else []) := by
  have hk := (inv_onNo hi n hr).1.hi
  have hd := (inv_drop hi n).hi
  obtain ⟨b1, b2, b3, b4, b5⟩ := hOnBye_law hd n hr
  unfold hOnNo at hk ⊢
  by_cases h1 : has h.v.act n = true
  · rw [if_pos h1] at hk ⊢
    rw [if_pos h1]
    exact ⟨hk, b2, b3, fun x => by simp only [b4]; exact sDrop_mem hi.good.asked.up n x, b5, rfl⟩
  · rw [if_neg h1] at hk ⊢
    rw [if_neg h1]
    exact ⟨hk, rfl, rfl, fun x => sDrop_mem hi.good.asked.up n x, fun x => ⟨fun hx => ⟨hx, fun e => h1 ((has_iff _ _).2 (e ▸ hx))⟩, fun hx => hx.1⟩, rfl⟩
theorem hOnBreak_law {h : Hd} (hi : HI h) (n : Int) :
    HI (hOnBreak h n) ∧ (hOnBreak h n).v.self = h.v.self ∧ (hOnBreak h n).v.am = h.v.am ∧ (∀ x, x ∈ (hOnBreak h n).asked ↔ x ∈ h.asked ∧ x ≠ n) ∧ (∀ x, x ∈ (hOnBreak h n).v.act ↔ x ∈ h.v.act ∧ x ≠ n) := by
  have hk := (inv_onBreak hi n (ds := []) (by simp)).1.hi
  obtain ⟨a, b, c, d⟩ := vLeave_am h.v n false []
  refine ⟨hk, a, b, fun x => sDrop_mem hi.good.asked.up n x, fun x => ?_⟩
  unfold hOnBreak
  simp only [(vForget_am _ n).2.2.2]
  rw [d]
  split
  · exact sDrop_mem hi.good.v.act.up n x
  · rename_i hno
    exact ⟨fun hx => ⟨hx, fun e => hno ((has_iff _ _).2 (e ▸ hx))⟩, fun hx => hx.1⟩
/-- what a Yes does -/
theorem hOnYes_law {h : Hd} (hi : HI h) (n : Int) (ha : 0 < h.v.am) {ds : List Int} (hr : ∀ x ∈ ds, 0 ≤ x ∧ x < 4294967296) :
    (n ∈ h.asked ∧ Took ⟨h.v, sDrop h.asked n⟩ n (hOnYes h n ds).1 (hOnYes h n ds).2.1 ∧ HI ⟨h.v, sDrop h.asked n⟩) ∨
    (n ∉ h.asked ∧ n ∈ h.v.act ∧ hOnYes h n ds = (h, [], ds)) ∨ (n ∉ h.asked ∧ n ∉ h.v.act ∧ hOnYes h n ds = (h, [⟨n, 6, false⟩], ds)) := by
  unfold hOnYes
  by_cases h0 : has h.asked n = true
  · left
    obtain ⟨n1, n2⟩ := hAsked_node hi h0
    have hd := (inv_drop hi n).hi
    rw [if_pos h0]
    exact ⟨(has_iff _ _).1 h0, (hTake_law hd n1 n2 ha hr).2, hd⟩
  · right
    rw [if_neg h0]
    have hm : n ∉ h.asked := fun e => h0 ((has_iff _ _).2 e)
    by_cases h1 : has h.v.act n = true
    · rw [if_pos h1]
      exact .inl ⟨hm, (has_iff _ _).1 h1, rfl⟩
    · rw [if_neg h1]
      exact .inr ⟨hm, fun e => h1 ((has_iff _ _).2 e), rfl⟩
end Go.Proofs.Ytelepohdfcjnfaa
