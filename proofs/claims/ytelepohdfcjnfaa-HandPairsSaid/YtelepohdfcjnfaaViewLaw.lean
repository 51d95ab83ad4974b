/-
  Views in plain Lean: which rules they keep.
-/
import Derived.Test.YtelepohdfcjnfaaViewSpec
namespace Go.Proofs.Ytelepohdfcjnfaa
open Go.RowKit Go.Proofs

theorem sDrop_mem {l : List Int} (h : l.Pairwise (· < ·)) (n x : Int) : x ∈ sDrop l n ↔ x ∈ l ∧ x ≠ n := by
  rw [sDrop_eq h, List.mem_filter]
  simp
theorem sAdd_sub {l : List Int} {m n x : Int} (h : x ∈ sAdd l m n) : x = n ∨ x ∈ l := by
  unfold sAdd at h
  split at h
  · exact .inr h
  · split at h
    · exact (ins_mem l n x).1 h
    · exact .inr h
theorem sAdd_sup {l : List Int} {m n x : Int} (h : x ∈ l) : x ∈ sAdd l m n := by
  unfold sAdd
  split
  · exact h
  · split
    · exact (ins_mem l n x).2 (.inr h)
    · exact h
theorem sAdd_has {l : List Int} {m n : Int} (h : sAddOk l m n = true) : n ∈ sAdd l m n := by
  unfold sAdd
  by_cases h1 : has l n = true
  · rw [if_pos h1]; exact (has_iff _ _).1 h1
  · rw [if_neg h1]
    have : 1 ≤ n ∧ n ≤ 65535 ∧ (l.length : Int) < m := by
      unfold sAddOk at h
      simp only [Bool.or_eq_true, Bool.and_eq_true, decide_eq_true_eq] at h
      rcases h with h | h
      · exact absurd h h1
      · exact ⟨h.1.1, h.1.2, h.2⟩
    rw [if_pos this]
    exact (ins_mem l n n).2 (.inl rfl)
theorem sAdd_len {l : List Int} {m n : Int} (h : sAddOk l m n = true) (hn : has l n = false) : (sAdd l m n).length = l.length + 1 := by
  unfold sAdd
  rw [if_neg (by rw [hn]; decide)]
  have : 1 ≤ n ∧ n ≤ 65535 ∧ (l.length : Int) < m := by
    unfold sAddOk at h
    simp only [hn, Bool.false_or, Bool.and_eq_true, decide_eq_true_eq] at h
    exact ⟨h.1.1, h.1.2, h.2⟩
  rw [if_pos this, ins_length]
theorem sDrop_len {l : List Int} (h : l.Pairwise (· < ·)) {n : Int} (hn : has l n = true) : (sDrop l n).length + 1 = l.length := by
  unfold sDrop
  rw [if_pos hn, del_length h ((has_iff _ _).1 hn)]
  have : 0 < l.length := List.length_pos_of_mem ((has_iff _ _).1 hn)
  omega

/-- the rules of a view -/
structure Vw.Sane (v : Vw) : Prop where
  act : v.self ∉ v.act
  pas : v.self ∉ v.pas
  apart : ∀ x ∈ v.act, x ∉ v.pas
theorem vSane_iff (v : Vw) : vSane v = true ↔ v.Sane := by
  unfold vSane
  simp only [Bool.and_eq_true, Bool.not_eq_true', has_no]
  constructor
  · rintro ⟨⟨h1, h2⟩, h3⟩
    refine ⟨h1, h2, fun x hx hp => ?_⟩
    rw [List.any_eq_false] at h3
    exact h3 x hx ((has_iff _ _).2 hp)
  · rintro ⟨h1, h2, h3⟩
    refine ⟨⟨h1, h2⟩, ?_⟩
    rw [List.any_eq_false]
    intro x hx hh
    exact h3 x hx ((has_iff _ _).1 hh)
theorem vForget_sane {v : Vw} (hg : v.Good) (h : v.Sane) (n : Int) : (vForget v n).Sane :=
  ⟨h.act, fun hm => h.pas ((sDrop_mem hg.pas.up n _).1 hm).1, fun x hx hm => h.apart x hx ((sDrop_mem hg.pas.up n _).1 hm).1⟩
theorem vJoin_sane {v : Vw} (hg : v.Good) (h : v.Sane) (n : Int) : (vJoin v n).Sane := by
  unfold vJoin
  split
  · rename_i hok
    unfold vJoinOk at hok
    simp only [Bool.and_eq_true, Bool.not_eq_true', beq_eq_false_iff_ne] at hok
    refine ⟨fun hm => ?_, fun hm => h.pas ((sDrop_mem hg.pas.up n _).1 hm).1, fun x hx hm => ?_⟩
    · rcases sAdd_sub hm with e | hm
      · exact hok.2 e.symm
      · exact h.act hm
    · obtain ⟨h1, h2⟩ := (sDrop_mem hg.pas.up n _).1 hm
      rcases sAdd_sub hx with e | hx
      · exact h2 e
      · exact h.apart x hx h1
  · exact h
theorem vRoom_sub {v : Vw} (hg : v.Good) (ds : List Int) {x : Int} (h : x ∈ (vRoom v ds).1) : x ∈ v.pas := by
  unfold vRoom at h
  split at h
  · exact ((sDrop_mem hg.pas.up _ _).1 h).1
  · exact h
theorem vNew_iff (v : Vw) (n : Int) : vNew v n = true ↔ (1 ≤ n ∧ n ≤ 65535) ∧ n ≠ v.self ∧ n ∉ v.act ∧ n ∉ v.pas := by
  unfold vNew
  simp only [Bool.and_eq_true, Bool.not_eq_true', decide_eq_true_eq, beq_eq_false_iff_ne, has_no]
  constructor
  · rintro ⟨⟨⟨⟨a, b⟩, c⟩, d⟩, e⟩; exact ⟨⟨a, b⟩, c, d, e⟩
  · rintro ⟨⟨a, b⟩, c, d, e⟩; exact ⟨⟨⟨⟨a, b⟩, c⟩, d⟩, e⟩
theorem vKnow_sane {v : Vw} (hg : v.Good) (h : v.Sane) (n : Int) (ds : List Int) : (vKnow v n ds).1.Sane := by
  unfold vKnow
  split
  · rename_i hn
    obtain ⟨_, h1, h2, h3⟩ := (vNew_iff v n).1 hn
    have hm : ∀ x, x ∈ (if sAddOk (vRoom v ds).1 v.pm n = true then sAdd (vRoom v ds).1 v.pm n else v.pas) → x = n ∨ x ∈ v.pas := by
      intro x hx
      split at hx
      · rcases sAdd_sub hx with e | hx
        · exact .inl e
        · exact .inr (vRoom_sub hg ds hx)
      · exact .inr hx
    refine ⟨h.act, fun hs => ?_, fun x hx hp => ?_⟩
    · rcases hm _ hs with e | e
      · exact h1 e.symm
      · exact h.pas e
    · rcases hm _ hp with e | e
      · exact h2 (e ▸ hx)
      · exact h.apart x hx e
  · exact h
theorem vDrop_sane {v : Vw} (hg : v.Good) (h : v.Sane) (n : Int) : Vw.Sane { v with act := sDrop v.act n } :=
  ⟨fun hm => h.act ((sDrop_mem hg.act.up n _).1 hm).1, h.pas, fun x hx hm => h.apart x ((sDrop_mem hg.act.up n _).1 hx).1 hm⟩
theorem vLeave_sane {v : Vw} (hg : v.Good) (h : v.Sane) (n : Int) (keep : Bool) (ds : List Int) : (vLeave v n keep ds).1.Sane := by
  have hg2 : Vw.Good { v with act := sDrop v.act n } := ⟨hg.act.drop n, hg.pas⟩
  unfold vLeave
  split
  · split
    · exact vKnow_sane hg2 (vDrop_sane hg h n) n ds
    · exact vDrop_sane hg h n
  · exact h
theorem vEvict_sane {v : Vw} (hg : v.Good) (h : v.Sane) (ds : List Int) : (vEvict v ds).1.Sane := by
  unfold vEvict
  split
  · exact h
  · exact vLeave_sane hg h _ _ _
/-- who is drawn is one of them -/
theorem oneV_mem {ds l : List Int} (hd : ∀ x ∈ ds, 0 ≤ x ∧ x < 4294967296) (hl : l ≠ []) : (oneV ds l).1 ∈ l ∧ (oneV ds l).2.1 = true := by
  have h0 : 0 < l.length := List.length_pos_iff.2 hl
  obtain ⟨-, h2⟩ := belN_eq ds l.length hd h0
  unfold oneV
  rw [if_neg hl]
  refine ⟨?_, rfl⟩
  simp only
  rw [List.getD_eq_getElem?_getD, List.getElem?_eq_getElem h2]
  exact List.getElem_mem h2
theorem oneV_range {ds l : List Int} (hd : ∀ x ∈ ds, 0 ≤ x ∧ x < 4294967296) : ∀ x ∈ (oneV ds l).2.2, 0 ≤ x ∧ x < 4294967296 := by
  unfold oneV
  split
  · exact hd
  · exact bel_sub ds _ (fun x => 0 ≤ x ∧ x < 4294967296) hd
theorem vRoom_len {v : Vw} (hg : v.Good) {ds : List Int} (hd : ∀ x ∈ ds, 0 ≤ x ∧ x < 4294967296) : ((vRoom v ds).1.length : Int) < v.pm ∨ v.pm = 0 := by
  have hf := hg.pas.fit
  have h0 := hg.pas.least
  unfold vRoom
  by_cases hfull : vFull v = true
  · by_cases hn : v.pas = []
    · right
      unfold vFull at hfull
      rw [hn] at hfull
      simp at hfull
      omega
    · rw [if_pos ⟨hfull, hn⟩]
      left
      have hm := oneV_mem hd hn
      have := sDrop_len hg.pas.up ((has_iff _ _).2 hm.1)
      simp only
      omega
  · rw [if_neg (fun h => hfull h.1)]
    left
    unfold vFull at hfull
    simp only [decide_eq_true_eq] at hfull
    simp only
    omega
/-- what comes of an active node that is evicted -/
structure Evicted (v : Vw) (ds : List Int) : Prop where
  ok : (vEvict v ds).2.2.1 = true
  was : (vEvict v ds).2.1 ∈ v.act
  node : 1 ≤ (vEvict v ds).2.1 ∧ (vEvict v ds).2.1 ≤ 65535
  act : (vEvict v ds).1.act = sDrop v.act (vEvict v ds).2.1
  len : (vEvict v ds).1.act.length + 1 = v.act.length
  pas : has (vEvict v ds).1.pas (vEvict v ds).2.1 = decide (0 < v.pm)
  plen : ((vEvict v ds).1.pas.length : Int) = min ((v.pas.length : Int) + 1) v.pm
  am : (vEvict v ds).1.am = v.am
  pm : (vEvict v ds).1.pm = v.pm
  self : (vEvict v ds).1.self = v.self
theorem vEvict_facts {v : Vw} (hg : v.Good) (hs : v.Sane) {ds : List Int} (hd : ∀ x ∈ ds, 0 ≤ x ∧ x < 4294967296) (hne : v.act ≠ []) : Evicted v ds := by
  have hm := oneV_mem hd hne
  obtain ⟨n, hn⟩ : ∃ n, n = (oneV ds v.act).1 := ⟨_, rfl⟩
  have hdr := oneV_range (l := v.act) hd
  obtain ⟨d2, hd2⟩ : ∃ d2, d2 = (oneV ds v.act).2.2 := ⟨_, rfl⟩
  have hE : vEvict v ds = ((vLeave v n true d2).1, n, true, (vLeave v n true d2).2.2) := by unfold vEvict; rw [if_neg hne, hn, hd2]
  rw [← hn] at hm
  rw [← hd2] at hdr
  have hact : has v.act n = true := (has_iff _ _).2 hm.1
  have hg2 : Vw.Good { v with act := sDrop v.act n } := ⟨hg.act.drop n, hg.pas⟩
  have hL : vLeave v n true d2 = ((vKnow { v with act := sDrop v.act n } n d2).1, true, (vKnow { v with act := sDrop v.act n } n d2).2) := by unfold vLeave; rw [if_pos hact, if_pos rfl]
  have hN : vNew { v with act := sDrop v.act n } n = true := by
    rw [vNew_iff]
    refine ⟨hg.act.node n hm.1, fun e => hs.act (e ▸ hm.1), fun h => ((sDrop_mem hg.act.up n n).1 h).2 rfl, hs.apart n hm.1⟩
  have hK : (vKnow { v with act := sDrop v.act n } n d2).1 = { v with act := sDrop v.act n, pas := if sAddOk (vRoom { v with act := sDrop v.act n } d2).1 v.pm n = true then sAdd (vRoom { v with act := sDrop v.act n } d2).1 v.pm n else v.pas } := by
    unfold vKnow; rw [if_pos hN]
  have hrl := vRoom_len hg2 hdr
  have hrs : ∀ x, x ∈ (vRoom { v with act := sDrop v.act n } d2).1 → x ∈ v.pas := fun x h => vRoom_sub hg2 d2 h
  have hro : ((vRoom { v with act := sDrop v.act n } d2).1.length : Int) + 1 = min ((v.pas.length : Int) + 1) v.pm ∨ v.pm = 0 := by
    rcases hrl with h | h
    · left
      unfold vRoom at h ⊢
      have hf := hg.pas.fit
      by_cases hc : vFull { v with act := sDrop v.act n } = true ∧ v.pas ≠ []
      · rw [if_pos hc]
        have hm2 := oneV_mem (ds := d2) hdr hc.2
        have := sDrop_len hg.pas.up ((has_iff _ _).2 hm2.1)
        have hfull := hc.1
        unfold vFull at hfull
        simp only [decide_eq_true_eq] at hfull
        simp only
        omega
      · rw [if_neg hc] at h ⊢
        simp only at h ⊢
        omega
    · exact .inr h
  obtain ⟨R, hR⟩ : ∃ R, R = (vRoom { v with act := sDrop v.act n } d2).1 := ⟨_, rfl⟩
  rw [← hR] at hrl hrs hro hK
  have hRn : has R n = false := (has_no _ _).2 (fun h => hs.apart n hm.1 (hrs n h))
  have hnode := hg.act.node n hm.1
  have hpl := sDrop_len hg.act.up hact
  have e1 : (vEvict v ds).1 = { v with act := sDrop v.act n, pas := if sAddOk R v.pm n = true then sAdd R v.pm n else v.pas } := by rw [hE, hL, hK]
  have e2 : (vEvict v ds).2.1 = n := by rw [hE]
  have e3 : (vEvict v ds).2.2.1 = true := by rw [hE]
  simp only at hrl
  have h0 := hg.pas.least
  have hfit := hg.pas.fit
  have hnp : has v.pas n = false := (has_no _ _).2 (hs.apart n hm.1)
  refine ⟨e3, by rw [e2]; exact hm.1, by rw [e2]; exact hnode, by rw [e1, e2], by rw [e1]; exact hpl, ?_, ?_, by rw [e1], by rw [e1], by rw [e1]⟩
  · rw [e1, e2]
    simp only
    by_cases hp : v.pm = 0
    · have hz : sAddOk R v.pm n = false := by
        unfold sAddOk
        rw [hRn, hp]
        simp
      rw [hz, hp]
      simp [hnp]
    · have hlt : (R.length : Int) < v.pm := by omega
      have hz : sAddOk R v.pm n = true := by
        unfold sAddOk
        simp only [hRn, Bool.false_or, Bool.and_eq_true, decide_eq_true_eq]
        exact ⟨⟨hnode.1, hnode.2⟩, hlt⟩
      rw [if_pos hz, (has_iff _ _).2 (sAdd_has hz), decide_eq_true (by omega)]
  · rw [e1]
    simp only
    by_cases hp : v.pm = 0
    · have hz : sAddOk R v.pm n = false := by
        unfold sAddOk
        rw [hRn, hp]
        simp
      rw [hz]
      simp
      omega
    · have hlt : (R.length : Int) < v.pm := by omega
      have hz : sAddOk R v.pm n = true := by
        unfold sAddOk
        simp only [hRn, Bool.false_or, Bool.and_eq_true, decide_eq_true_eq]
        exact ⟨⟨hnode.1, hnode.2⟩, hlt⟩
      have := sAdd_len hz hRn
      rw [if_pos hz, this]
      rcases hro with h | h
      · omega
      · exact absurd h hp
end Go.Proofs.Ytelepohdfcjnfaa
