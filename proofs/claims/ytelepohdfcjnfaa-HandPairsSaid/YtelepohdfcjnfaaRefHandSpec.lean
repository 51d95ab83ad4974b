/-
  The document's hand (bellhopref11) in plain Lean, and that it does as the hand does.
-/
import Derived.Test.YtelepohdfcjnfaaHandSpec
import Derived.Test.YtelepohdfcjnfaaRvSpec
namespace Go.Proofs.Ytelepohdfcjnfaa
open Go.RowKit Go.Proofs

structure Rh where
  u : Vw
  asked : List Int
def rhAskNo (h : Rh) (n : Int) : Bool := decide (n < 1) || decide (65535 < n) || (n == h.u.self) || has h.u.act n || has h.asked n || decide ((64 : Int) ≤ (h.asked.length : Int))
def rhAsk (h : Rh) (n : Int) (high : Bool) : Rh × List Ho := if rhAskNo h n = true then (h, []) else (⟨h.u, h.asked ++ [n]⟩, [⟨n, 3, high⟩])
def raFull (u : Vw) : Bool := decide (u.am ≤ (u.act.length : Int))
def rhTake (h : Rh) (n : Int) (ds : List Int) : Rh × List Ho × List Int :=
  if has h.u.act n = true then (h, [], ds) else
    if raFull h.u = true then
      (⟨rJoin (rEvict h.u ds).1 n, if (rEvict h.u ds).2.2.1 = true then rDrop h.asked (rEvict h.u ds).2.1 else h.asked⟩, if (rEvict h.u ds).2.2.1 = true then [⟨(rEvict h.u ds).2.1, 6, false⟩] else [], (rEvict h.u ds).2.2.2)
    else (⟨rJoin h.u n, h.asked⟩, [], ds)
def rhNo (h : Rh) (n : Int) (high : Bool) : Bool := decide (n < 1) || decide (65535 < n) || (n == h.u.self) || (h.u.am == 0) || (!high && raFull h.u)
def rhOnAsk (h : Rh) (n : Int) (high : Bool) (ds : List Int) : Rh × List Ho × List Int :=
  if has h.u.act n = true then (h, [⟨n, 4, false⟩], ds) else
    if rhNo h n high = true then (h, [⟨n, 5, false⟩], ds) else ((rhTake h n ds).1, (rhTake h n ds).2.1 ++ [⟨n, 4, false⟩], (rhTake h n ds).2.2)
def rhOnYes (h : Rh) (n : Int) (ds : List Int) : Rh × List Ho × List Int :=
  if has h.asked n = true then (if h.u.am = 0 then (⟨h.u, rDrop h.asked n⟩, [], ds) else rhTake ⟨h.u, rDrop h.asked n⟩ n ds) else
    if has h.u.act n = true then (h, [], ds) else (h, [⟨n, 6, false⟩], ds)
def rhOnBye (h : Rh) (n : Int) (ds : List Int) : Rh × List Int := (⟨(rLeave h.u n true ds).1, h.asked⟩, (rLeave h.u n true ds).2.2)
def rhOnNo (h : Rh) (n : Int) (ds : List Int) : Rh × List Ho × List Int :=
  if has h.u.act n = true then ((rhOnBye ⟨h.u, rDrop h.asked n⟩ n ds).1, [⟨n, 6, false⟩], (rhOnBye ⟨h.u, rDrop h.asked n⟩ n ds).2) else (⟨h.u, rDrop h.asked n⟩, [], ds)
def rhOnBreak (h : Rh) (n : Int) (ds : List Int) : Rh := ⟨rForget (rLeave h.u n false ds).1 n, rDrop h.asked n⟩

structure HInv (h : Hd) (g : Rh) : Prop where
  like : Like h.v g.u
  asked : h.asked.Perm g.asked
  good : h.Good
  sane : h.v.Sane
  self : h.v.self ∉ h.asked

theorem vKnow_am (v : Vw) (n : Int) (ds : List Int) : (vKnow v n ds).1.self = v.self ∧ (vKnow v n ds).1.am = v.am ∧ (vKnow v n ds).1.pm = v.pm ∧ (vKnow v n ds).1.act = v.act := by
  unfold vKnow
  split <;> exact ⟨rfl, rfl, rfl, rfl⟩
theorem vLeave_am (v : Vw) (n : Int) (k : Bool) (ds : List Int) : (vLeave v n k ds).1.self = v.self ∧ (vLeave v n k ds).1.am = v.am ∧ (vLeave v n k ds).1.pm = v.pm ∧ (vLeave v n k ds).1.act = (if has v.act n = true then sDrop v.act n else v.act) := by
  unfold vLeave
  by_cases h : has v.act n = true
  · rw [if_pos h, if_pos h]
    split
    · obtain ⟨a, b, c, d⟩ := vKnow_am { v with act := sDrop v.act n } n ds
      exact ⟨a, b, c, d⟩
    · exact ⟨rfl, rfl, rfl, rfl⟩
  · rw [if_neg h, if_neg h]
    exact ⟨rfl, rfl, rfl, rfl⟩
theorem vJoin_am (v : Vw) (n : Int) : (vJoin v n).self = v.self ∧ (vJoin v n).am = v.am ∧ (vJoin v n).pm = v.pm := by
  unfold vJoin
  split <;> exact ⟨rfl, rfl, rfl⟩
theorem vForget_am (v : Vw) (n : Int) : (vForget v n).self = v.self ∧ (vForget v n).am = v.am ∧ (vForget v n).pm = v.pm ∧ (vForget v n).act = v.act := ⟨rfl, rfl, rfl, rfl⟩

theorem inv_drop {h : Hd} {g : Rh} (hi : HInv h g) (n : Int) : HInv ⟨h.v, sDrop h.asked n⟩ ⟨g.u, rDrop g.asked n⟩ :=
  ⟨hi.like, perm_dropV hi.asked hi.good.asked.up n, ⟨hi.good.v, hi.good.asked.drop n⟩, hi.sane, fun hm => hi.self ((sDrop_mem hi.good.asked.up n _).1 hm).1⟩
theorem inv_ask {h : Hd} {g : Rh} (hi : HInv h g) (n : Int) (high : Bool) : HInv (hAsk h n high).1 (rhAsk g n high).1 ∧ (rhAsk g n high).2 = (hAsk h n high).2 := by
  have hno : rhAskNo g n = !hAsks h n := by
    unfold rhAskNo hAsks sAddOk
    rw [perm_hasV hi.like.act, perm_hasV hi.asked, hi.like.self, hi.asked.symm.length_eq]
    generalize has h.v.act n = b1
    generalize has h.asked n = b2
    rw [Bool.eq_iff_iff]
    by_cases hs : n = h.v.self
    · simp [hs]
    · have : (n == h.v.self) = false := by simpa using hs
      rw [this]
      cases b1 <;> cases b2 <;> simp <;> omega
  unfold rhAsk hAsk
  rw [hno]
  cases hk : hAsks h n
  · exact ⟨hi, rfl⟩
  · refine ⟨?_, rfl⟩
    unfold hAsks at hk
    simp only [Bool.and_eq_true, Bool.not_eq_true', beq_eq_false_iff_ne] at hk
    obtain ⟨⟨⟨h1, h2⟩, h3⟩, h4⟩ := hk
    have h5 : 1 ≤ n ∧ n ≤ 65535 ∧ (h.asked.length : Int) < 64 := by
      unfold sAddOk at h4
      simp only [h3, Bool.false_or, Bool.and_eq_true, decide_eq_true_eq] at h4
      exact ⟨h4.1.1, h4.1.2, h4.2⟩
    refine ⟨hi.like, perm_addV hi.asked h3 h5.1 h5.2.1 h5.2.2, ⟨hi.good.v, hi.good.asked.add n⟩, hi.sane, fun hm => ?_⟩
    rcases sAdd_sub hm with e | hm
    · exact h1 e.symm
    · exact hi.self hm
theorem join_ok {v : Vw} {n : Int} (hn : 1 ≤ n ∧ n ≤ 65535) (hs : n ≠ v.self) (hl : (v.act.length : Int) < v.am) : vJoinOk v n = true := by
  unfold vJoinOk sAddOk
  simp only [Bool.and_eq_true, Bool.or_eq_true, decide_eq_true_eq, Bool.not_eq_true', beq_eq_false_iff_ne]
  exact ⟨.inr ⟨⟨hn.1, hn.2⟩, hl⟩, hs⟩
theorem inv_take {h : Hd} {g : Rh} (hi : HInv h g) {n : Int} (hn : 1 ≤ n ∧ n ≤ 65535) (hs : n ≠ h.v.self) (ha : 0 < h.v.am) {ds : List Int} (hr : ∀ x ∈ ds, 0 ≤ x ∧ x < 4294967296) :
    HInv (hTake h n ds).1 (rhTake g n ds).1 ∧ (rhTake g n ds).2.1 = (hTake h n ds).2.1 ∧ (rhTake g n ds).2.2 = (hTake h n ds).2.2.2 ∧ (hTake h n ds).2.2.1 = true := by
  have hh := perm_hasV hi.like.act n
  have hf : raFull g.u = vaFull h.v := by unfold raFull vaFull; rw [hi.like.am, hi.like.act.symm.length_eq]
  have hns : (n == h.v.self) = false := by simpa using hs
  unfold rhTake hTake
  rw [hh, hf]
  by_cases h1 : has h.v.act n = true
  · rw [if_pos h1, if_pos h1]
    exact ⟨hi, rfl, rfl, rfl⟩
  · rw [if_neg h1, if_neg h1]
    by_cases h2 : vaFull h.v = true
    · have hne : h.v.act ≠ [] := by
        intro e
        unfold vaFull at h2
        rw [e] at h2
        simp at h2
        omega
      have E := vEvict_facts hi.good.v hi.sane hr hne
      obtain ⟨L, e2⟩ := like_evict hi.like hi.good.v hr
      have e3 : (rEvict g.u ds).2.1 = (vEvict h.v ds).2.1 := by rw [e2]
      have e4 : (rEvict g.u ds).2.2.1 = (vEvict h.v ds).2.2.1 := by rw [e2]
      have e5 : (rEvict g.u ds).2.2.2 = (vEvict h.v ds).2.2.2 := by rw [e2]
      have hG := vEvict_good hi.good.v ds
      have hS := vEvict_sane hi.good.v hi.sane ds
      have hev : hEv h ds = vEvict h.v ds := by unfold hEv; rw [if_pos h2]
      have hev2 : hEvs h n ds = true := by unfold hEvs; rw [hev, E.ok, hns]; rfl
      have hjo : vJoinOk (vEvict h.v ds).1 n = true := by
        refine join_ok hn (by rw [E.self]; exact hs) ?_
        have := E.len
        have := hi.good.v.act.fit
        rw [E.am]
        omega
      unfold hRoomV hRoomA hRoomO
      rw [if_pos h2, if_pos hev2, if_pos hev2, if_pos hev2, hev, if_pos hjo, e4, E.ok, if_pos rfl, if_pos rfl, e3, e5]
      refine ⟨⟨like_join L hG n, perm_dropV hi.asked hi.good.asked.up _, ⟨vJoin_good hG n, hi.good.asked.drop _⟩, vJoin_sane hG hS n, fun hm => ?_⟩, rfl, rfl, rfl⟩
      have := ((sDrop_mem hi.good.asked.up _ _).1 hm).1
      simp only [(vJoin_am _ n).1, E.self] at this
      exact hi.self this
    · have hev : hEv h ds = (h.v, 0, false, ds) := by unfold hEv; rw [if_neg h2]
      have hev2 : hEvs h n ds = false := by unfold hEvs; rw [hev]; rfl
      have hjo : vJoinOk h.v n = true := by
        refine join_ok hn hs ?_
        unfold vaFull at h2
        simp only [decide_eq_true_eq] at h2
        omega
      unfold hRoomV hRoomA hRoomO
      rw [if_neg h2, hev2, hev]
      simp only [Bool.false_eq_true, if_false, hjo, if_true]
      refine ⟨⟨like_join hi.like hi.good.v n, hi.asked, ⟨vJoin_good hi.good.v n, hi.good.asked⟩, vJoin_sane hi.good.v hi.sane n, ?_⟩, by simp, by simp, by simp⟩
      rw [(vJoin_am _ n).1]
      exact hi.self
/-- for no active nodes: nobody is taken in -/
theorem take_zero {h : Hd} (hg : h.Good) {n : Int} (ha : h.v.am = 0) (ds : List Int) : hTake h n ds = (h, [], false, ds) := by
  have hl : h.v.act = [] := List.eq_nil_of_length_eq_zero (by have := hg.v.act.fit; omega)
  have h1 : ¬ has h.v.act n = true := by rw [hl]; simp [has]
  have h2 : vaFull h.v = true := by unfold vaFull; rw [ha]; simp
  have hev : hEv h ds = (h.v, 0, false, ds) := by unfold hEv vEvict; rw [if_pos h2, if_pos hl]
  have hev2 : hEvs h n ds = false := by unfold hEvs; rw [hev]; rfl
  unfold hTake hRoomV
  have h3 : vJoinOk h.v n = false := by
    unfold vJoinOk sAddOk
    rw [hl, ha]
    simp [has]
  rw [if_neg h1, hev2, hev]
  simp only [Bool.false_eq_true, if_false, h3]
theorem hAsked_node {h : Hd} {g : Rh} (hi : HInv h g) {n : Int} (hn : has h.asked n = true) : (1 ≤ n ∧ n ≤ 65535) ∧ n ≠ h.v.self := by
  have hm := (has_iff _ _).1 hn
  exact ⟨hi.good.asked.node n hm, fun e => hi.self (e ▸ hm)⟩
theorem inv_onAsk {h : Hd} {g : Rh} (hi : HInv h g) (n : Int) (high : Bool) {ds : List Int} (hr : ∀ x ∈ ds, 0 ≤ x ∧ x < 4294967296) :
    HInv (hOnAsk h n high ds).1 (rhOnAsk g n high ds).1 ∧ (rhOnAsk g n high ds).2 = (hOnAsk h n high ds).2 := by
  have hh := perm_hasV hi.like.act n
  have hf : raFull g.u = vaFull h.v := by unfold raFull vaFull; rw [hi.like.am, hi.like.act.symm.length_eq]
  unfold rhOnAsk hOnAsk
  rw [hh]
  by_cases h1 : has h.v.act n = true
  · rw [if_pos h1, if_pos h1]
    exact ⟨hi, rfl⟩
  · rw [if_neg h1, if_neg h1]
    by_cases ha : h.v.am = 0
    · have hno : rhNo g n high = true := by unfold rhNo; rw [hi.like.am, ha]; simp
      rw [if_pos hno, take_zero hi.good ha]
      split <;> exact ⟨hi, rfl⟩
    · have ha' : 0 < h.v.am := by have := hi.good.v.act.least; omega
      have hno : rhNo g n high = !hMay h n high := by
        unfold rhNo hMay
        rw [hi.like.self, hi.like.am, hf]
        generalize vaFull h.v = F
        have : (h.v.am == 0) = false := by simpa using ha
        rw [this]
        rw [Bool.eq_iff_iff]
        cases F <;> cases high <;> simp <;> omega
      rw [hno]
      cases hm : hMay h n high
      · exact ⟨hi, rfl⟩
      · unfold hMay at hm
        simp only [Bool.and_eq_true, decide_eq_true_eq, Bool.not_eq_true', beq_eq_false_iff_ne] at hm
        obtain ⟨⟨⟨m1, m2⟩, m3⟩, -⟩ := hm
        obtain ⟨t1, t2, t3, t4⟩ := inv_take hi ⟨m1, m2⟩ m3 ha' hr
        simp only [Bool.not_true, Bool.false_eq_true, if_false, if_true, t4]
        exact ⟨t1, by rw [t2, t3]⟩
theorem inv_onYes {h : Hd} {g : Rh} (hi : HInv h g) (n : Int) {ds : List Int} (hr : ∀ x ∈ ds, 0 ≤ x ∧ x < 4294967296) :
    HInv (hOnYes h n ds).1 (rhOnYes g n ds).1 ∧ (rhOnYes g n ds).2 = (hOnYes h n ds).2 := by
  unfold rhOnYes hOnYes
  rw [perm_hasV hi.like.act, perm_hasV hi.asked]
  by_cases h0 : has h.asked n = true
  · rw [if_pos h0, if_pos h0]
    obtain ⟨n1, n2⟩ := hAsked_node hi h0
    have hd := inv_drop hi n
    by_cases ha : h.v.am = 0
    · have ha2 : (⟨h.v, sDrop h.asked n⟩ : Hd).v.am = 0 := ha
      rw [if_pos (by rw [hi.like.am]; exact ha), take_zero hd.good ha2]
      exact ⟨hd, rfl⟩
    · rw [if_neg (by rw [hi.like.am]; exact ha)]
      obtain ⟨t1, t2, t3, -⟩ := inv_take hd n1 n2 (show 0 < h.v.am by have := hi.good.v.act.least; omega) hr
      refine ⟨t1, ?_⟩
      rw [← t2, ← t3]
  · rw [if_neg h0, if_neg h0]
    split <;> exact ⟨hi, rfl⟩
theorem inv_onBye {h : Hd} {g : Rh} (hi : HInv h g) (n : Int) {ds : List Int} (hr : ∀ x ∈ ds, 0 ≤ x ∧ x < 4294967296) :
    HInv (hOnBye h n ds).1 (rhOnBye g n ds).1 ∧ (rhOnBye g n ds).2 = (hOnBye h n ds).2 := by
  obtain ⟨L, e⟩ := like_leave hi.like hi.good.v n true hr
  refine ⟨⟨L, hi.asked, ⟨vLeave_good hi.good.v n true ds, hi.good.asked⟩, vLeave_sane hi.good.v hi.sane n true ds, ?_⟩, ?_⟩
  · unfold hOnBye
    rw [(vLeave_am h.v n true ds).1]
    exact hi.self
  · unfold rhOnBye hOnBye
    rw [e]
theorem inv_onNo {h : Hd} {g : Rh} (hi : HInv h g) (n : Int) {ds : List Int} (hr : ∀ x ∈ ds, 0 ≤ x ∧ x < 4294967296) :
    HInv (hOnNo h n ds).1 (rhOnNo g n ds).1 ∧ (rhOnNo g n ds).2 = (hOnNo h n ds).2 := by
  unfold rhOnNo hOnNo
  rw [perm_hasV hi.like.act]
  have hd := inv_drop hi n
  obtain ⟨b1, b2⟩ := inv_onBye hd n hr
  split
  · exact ⟨b1, by rw [b2]⟩
  · exact ⟨hd, rfl⟩
theorem inv_onBreak {h : Hd} {g : Rh} (hi : HInv h g) (n : Int) {ds : List Int} (hr : ∀ x ∈ ds, 0 ≤ x ∧ x < 4294967296) :
    HInv (hOnBreak h n) (rhOnBreak g n ds) ∧ (rLeave g.u n false ds).2.2 = ds := by
  have hd := inv_drop hi n
  have h0 : (vLeave h.v n false ds).1 = (vLeave h.v n false []).1 ∧ (vLeave h.v n false ds).2.2 = ds := by
    unfold vLeave
    split <;> exact ⟨rfl, rfl⟩
  obtain ⟨L, e⟩ := like_leave hi.like hi.good.v n false hr
  have hG := vLeave_good hi.good.v n false ds
  have hS := vLeave_sane hi.good.v hi.sane n false ds
  refine ⟨?_, by rw [e]; exact h0.2⟩
  unfold hOnBreak rhOnBreak
  rw [← h0.1]
  refine ⟨like_forget L hG n, hd.asked, ⟨vForget_good hG n, hd.good.asked⟩, vForget_sane hG hS n, ?_⟩
  rw [(vForget_am _ n).1, (vLeave_am h.v n false ds).1]
  exact hd.self
end Go.Proofs.Ytelepohdfcjnfaa
