/-
  Peers in plain Lean, and the document's: sets that rise, lists in the order in which nodes came.
-/
import Derived.Test.YtelepohdfcjnfaaZRvSpec
namespace Go.Proofs.Ytelepohdfcjnfaa
open Go.RowKit Go.Proofs

/-- who is eager, who is lazy -/
structure Pe where
  e : List Int
  z : List Int
def peHas (u : Pe) (n : Int) : Bool := has u.e n || has u.z n
def peUpNo (u : Pe) (n : Int) : Bool := peHas u n || decide (64 ≤ u.e.length + u.z.length)
def peUp (u : Pe) (n : Int) : Pe := if peUpNo u n = true then u else ⟨sAdd u.e 64 n, u.z⟩
def peDown (u : Pe) (n : Int) : Pe := ⟨sDrop u.e n, sDrop u.z n⟩
def pePrune (u : Pe) (n : Int) : Pe × Bool := if has u.e n = true then (⟨sDrop u.e n, sAdd u.z 64 n⟩, true) else (u, false)
def peGraft (u : Pe) (n : Int) : Pe := if has u.z n = true then ⟨sAdd u.e 64 n, sDrop u.z n⟩ else u
def peAll (u : Pe) : List Int := srt (u.e ++ u.z)
def peCut (act : List Int) (u : Pe) (n : Int) : Pe := if has act n = true then u else peDown u n
def peMatch (u : Pe) (act : List Int) : Pe := act.foldl peUp ((peAll u).foldl (peCut act) u)
def peNew (u q : Pe) : List Int := kept (fun n => peHas u n) (peAll q)
/-- the document's -/
def rpUpOk (m : Pe) (n : Int) : Bool := decide (1 ≤ n) && decide (n ≤ 65535) && !peHas m n && decide (m.e.length + m.z.length < 64)
def rpUp (m : Pe) (n : Int) : Pe := if rpUpOk m n = true then ⟨m.e ++ [n], m.z⟩ else m
def rpDown (m : Pe) (n : Int) : Pe := ⟨rDrop m.e n, rDrop m.z n⟩
def rpPrune (m : Pe) (n : Int) : Pe × Bool := if has m.e n = true then (⟨rDrop m.e n, m.z ++ [n]⟩, true) else (m, false)
def rpGraft (m : Pe) (n : Int) : Pe × Bool := if peHas m n = true then (⟨rDrop m.e n ++ [n], rDrop m.z n⟩, true) else (m, false)
def rpCut (act : List Int) (m : Pe) (n : Int) : Pe := if has act n = true then m else rpDown m n
def rpMatch (m : Pe) (act : List Int) : Pe := act.foldl rpUp ((peAll m).foldl (rpCut act) m)
/-- what peers keep -/
structure Pe.Good (u : Pe) : Prop where
  e : Ytelepohdfcjnfaa.Good u.e 64
  z : Ytelepohdfcjnfaa.Good u.z 64
  apart : ∀ x ∈ u.e, x ∉ u.z
  fit : u.e.length + u.z.length ≤ 64
/-- peers and the document's of them -/
structure PLike (u m : Pe) : Prop where
  e : u.e.Perm m.e
  z : u.z.Perm m.z
def peSame (u m : Pe) : Bool := decide (u.e = srt m.e) && decide (u.z = srt m.z) && decide (peAll u = peAll m)

theorem drop_mem {l : List Int} (h : l.Pairwise (· < ·)) (n x : Int) : x ∈ sDrop l n ↔ x ∈ l ∧ x ≠ n := by
  rw [sDrop_eq h, List.mem_filter]
  simp
theorem sDrop_le {l : List Int} (h : l.Pairwise (· < ·)) (n : Int) : (sDrop l n).length ≤ l.length := by rw [sDrop_eq h]; exact List.length_filter_le _ _
theorem sDrop_lt {l : List Int} (h : l.Pairwise (· < ·)) {n : Int} (hn : has l n = true) : (sDrop l n).length + 1 = l.length := by
  unfold sDrop
  rw [if_pos hn, del_length h ((has_iff _ _).1 hn)]
  have := List.length_pos_of_mem ((has_iff _ _).1 hn)
  omega
theorem sAdd_in {l : List Int} {m n : Int} (h : has l n = true) : sAdd l m n = l := by unfold sAdd; rw [if_pos h]
theorem sAdd_mem {l : List Int} {m n : Int} (h1 : 1 ≤ n) (h2 : n ≤ 65535) (h3 : (l.length : Int) < m) (x : Int) : x ∈ sAdd l m n ↔ x = n ∨ x ∈ l := by
  unfold sAdd
  split
  · rename_i h
    refine ⟨.inr, fun hx => hx.elim (fun e => e ▸ (has_iff _ _).1 h) id⟩
  · rw [if_pos ⟨h1, h2, h3⟩]
    exact ins_mem l n x
theorem peAdd_sub {l : List Int} {m n x : Int} (h : x ∈ sAdd l m n) : x = n ∨ x ∈ l := by
  unfold sAdd at h
  split at h
  · exact .inr h
  · split at h
    · exact (ins_mem l n x).1 h
    · exact .inr h
theorem peAdd_len (l : List Int) (m n : Int) : (sAdd l m n).length ≤ l.length + 1 := by
  unfold sAdd
  split
  · exact Nat.le_succ _
  · split
    · rw [ins_length]; exact Nat.le_refl _
    · exact Nat.le_succ _
theorem peHas_iff (u : Pe) (n : Int) : peHas u n = true ↔ n ∈ u.e ∨ n ∈ u.z := by
  unfold peHas
  rw [Bool.or_eq_true, has_iff, has_iff]
theorem peHas_no (u : Pe) (n : Int) : peHas u n = false ↔ n ∉ u.e ∧ n ∉ u.z := by
  rw [← Bool.not_eq_true, peHas_iff]
  constructor
  · exact fun h => ⟨fun x => h (.inl x), fun x => h (.inr x)⟩
  · rintro ⟨a, b⟩ (h | h)
    · exact a h
    · exact b h
theorem pe_none : Pe.Good ⟨[], []⟩ := ⟨Good.nil (by decide) (by decide), Good.nil (by decide) (by decide), (fun x h => by cases h), by simp⟩

theorem Pe.Good.up {u : Pe} (h : u.Good) (n : Int) : (peUp u n).Good := by
  unfold peUp
  cases hn : peUpNo u n
  · rw [if_neg (by decide)]
    unfold peUpNo at hn
    simp only [Bool.or_eq_false_iff, decide_eq_false_iff_not, Nat.not_le] at hn
    obtain ⟨hn1, hn2⟩ := hn
    have hn3 := (peHas_no u n).1 hn1
    refine ⟨h.e.add n, h.z, fun x hx hz => ?_, ?_⟩
    · rcases peAdd_sub hx with rfl | hx
      · exact hn3.2 hz
      · exact h.apart x hx hz
    · have := peAdd_len u.e 64 n
      simp only
      omega
  · rw [if_pos rfl]
    exact h
theorem Pe.Good.down {u : Pe} (h : u.Good) (n : Int) : (peDown u n).Good := by
  refine ⟨h.e.drop n, h.z.drop n, fun x hx hz => ?_, ?_⟩
  · exact h.apart x ((drop_mem h.e.up n x).1 hx).1 ((drop_mem h.z.up n x).1 hz).1
  · have := sDrop_le h.e.up n
    have := sDrop_le h.z.up n
    have := h.fit
    unfold peDown
    simp only
    omega
theorem Pe.Good.prune {u : Pe} (h : u.Good) (n : Int) : (pePrune u n).1.Good := by
  unfold pePrune
  cases hn : has u.e n
  · rw [if_neg (by decide)]
    exact h
  · rw [if_pos rfl]
    refine ⟨h.e.drop n, h.z.add n, fun x hx hz => ?_, ?_⟩
    · have h1 := (drop_mem h.e.up n x).1 hx
      rcases peAdd_sub hz with rfl | hz
      · exact h1.2 rfl
      · exact h.apart x h1.1 hz
    · have := sDrop_lt h.e.up hn
      have := peAdd_len u.z 64 n
      have := h.fit
      simp only
      omega
theorem Pe.Good.graft {u : Pe} (h : u.Good) (n : Int) : (peGraft u n).Good := by
  unfold peGraft
  cases hn : has u.z n
  · rw [if_neg (by decide)]
    exact h
  · rw [if_pos rfl]
    refine ⟨h.e.add n, h.z.drop n, fun x hx hz => ?_, ?_⟩
    · have h1 := (drop_mem h.z.up n x).1 hz
      rcases peAdd_sub hx with rfl | hx
      · exact h1.2 rfl
      · exact h.apart x hx h1.1
    · have := sDrop_lt h.z.up hn
      have := peAdd_len u.e 64 n
      have := h.fit
      simp only
      omega
theorem Pe.Good.cuts {u : Pe} (act : List Int) (h : u.Good) : ∀ (l : List Int), (l.foldl (peCut act) u).Good := by
  intro l
  induction l generalizing u with
  | nil => exact h
  | cons n r ih =>
    rw [List.foldl_cons]
    refine ih ?_
    unfold peCut
    split
    · exact h
    · exact h.down n
theorem Pe.Good.ups {u : Pe} (h : u.Good) : ∀ (l : List Int), (l.foldl peUp u).Good := by
  intro l
  induction l generalizing u with
  | nil => exact h
  | cons n r ih => exact ih (h.up n)
theorem Pe.Good.match_ {u : Pe} (h : u.Good) (act : List Int) : (peMatch u act).Good := (h.cuts act _).ups act

theorem PLike.hasEq {u m : Pe} (h : PLike u m) (n : Int) : peHas m n = peHas u n := by unfold peHas; rw [perm_hasV h.e, perm_hasV h.z]
theorem PLike.len {u m : Pe} (h : PLike u m) : m.e.length = u.e.length ∧ m.z.length = u.z.length := ⟨h.e.symm.length_eq, h.z.symm.length_eq⟩
theorem PLike.all {u m : Pe} (h : PLike u m) : peAll m = peAll u :=
  up_uniq ((srt_perm _).trans ((h.e.append h.z).symm.trans (srt_perm _).symm)) (srt_up _) (srt_up _)
theorem PLike.same {u m : Pe} (h : PLike u m) (g : u.Good) : peSame u m = true := by
  unfold peSame
  rw [perm_srt h.e g.e.up, perm_srt h.z g.z.up, h.all]
  simp
theorem PLike.up {u m : Pe} (h : PLike u m) (n : Int) : PLike (peUp u n) (rpUp m n) := by
  unfold peUp rpUp
  have hk : rpUpOk m n = (decide (1 ≤ n) && decide (n ≤ 65535) && !peUpNo u n) := by
    unfold rpUpOk peUpNo
    rw [h.hasEq, h.len.1, h.len.2]
    by_cases h64 : 64 ≤ u.e.length + u.z.length
    · rw [decide_eq_true h64, decide_eq_false (show ¬ u.e.length + u.z.length < 64 by omega)]; simp
    · rw [decide_eq_false h64, decide_eq_true (show u.e.length + u.z.length < 64 by omega)]; simp
  cases hn : peUpNo u n
  · rw [if_neg (by decide)]
    rw [hn] at hk
    unfold peUpNo at hn
    simp only [Bool.or_eq_false_iff, decide_eq_false_iff_not, Nat.not_le] at hn
    obtain ⟨hn1, hn2⟩ := hn
    have h0 : has u.e n = false := by unfold peHas at hn1; simp only [Bool.or_eq_false_iff] at hn1; exact hn1.1
    by_cases hv : 1 ≤ n ∧ n ≤ 65535
    · rw [if_pos (by rw [hk, decide_eq_true hv.1, decide_eq_true hv.2]; rfl)]
      have h64 : (u.e.length : Int) < 64 := by have := hn2; omega
      exact ⟨perm_addV h.e h0 hv.1 hv.2 h64, h.z⟩
    · have hno : rpUpOk m n = false := by
        rw [hk]
        by_cases h1 : 1 ≤ n
        · rw [decide_eq_false (show ¬ n ≤ 65535 from fun h2 => hv ⟨h1, h2⟩)]; simp
        · rw [decide_eq_false h1]; simp
      rw [if_neg (by rw [hno]; decide)]
      refine ⟨?_, h.z⟩
      unfold sAdd
      rw [if_neg (by rw [h0]; decide), if_neg (fun hh => hv ⟨hh.1, hh.2.1⟩)]
      exact h.e
  · rw [if_pos rfl]
    rw [hn] at hk
    rw [if_neg (by rw [hk]; simp)]
    exact h
theorem PLike.down {u m : Pe} (h : PLike u m) (g : u.Good) (n : Int) : PLike (peDown u n) (rpDown m n) := ⟨perm_dropV h.e g.e.up n, perm_dropV h.z g.z.up n⟩
theorem PLike.prune {u m : Pe} (h : PLike u m) (g : u.Good) (n : Int) : PLike (pePrune u n).1 (rpPrune m n).1 ∧ (rpPrune m n).2 = (pePrune u n).2 := by
  unfold pePrune rpPrune
  rw [perm_hasV h.e]
  cases hn : has u.e n
  · rw [if_neg (by decide), if_neg (by decide)]
    exact ⟨h, rfl⟩
  · rw [if_pos rfl, if_pos rfl]
    have hm := (has_iff _ _).1 hn
    have h1 := g.e.node n hm
    have := List.length_pos_of_mem hm
    have := g.fit
    exact ⟨⟨perm_dropV h.e g.e.up n, perm_addV h.z ((has_no _ _).2 (g.apart n hm)) h1.1 h1.2 (by omega)⟩, rfl⟩
theorem graft_has {u : Pe} (g : u.Good) (n : Int) : has (peGraft u n).e n = peHas u n := by
  unfold peGraft peHas
  cases hn : has u.z n
  · rw [if_neg (by decide), Bool.or_false]
  · rw [if_pos rfl, Bool.or_true, has_iff]
    have hm := (has_iff _ _).1 hn
    have h1 := g.z.node n hm
    have := List.length_pos_of_mem hm
    have := g.fit
    exact (sAdd_mem h1.1 h1.2 (by omega) n).2 (.inl rfl)
theorem PLike.graft {u m : Pe} (h : PLike u m) (g : u.Good) (n : Int) : PLike (peGraft u n) (rpGraft m n).1 ∧ (rpGraft m n).2 = has (peGraft u n).e n := by
  rw [graft_has g]
  unfold peGraft rpGraft
  rw [h.hasEq]
  cases hz : has u.z n
  · rw [if_neg (by decide)]
    unfold peHas
    rw [hz, Bool.or_false]
    cases he : has u.e n
    · rw [if_neg (by decide)]
      exact ⟨h, rfl⟩
    · rw [if_pos rfl]
      refine ⟨⟨?_, ?_⟩, rfl⟩
      · have hm := (has_iff _ _).1 he
        refine h.e.trans ?_
        have h1 := perm_dropV h.e g.e.up n
        have h2 : u.e.Perm (sDrop u.e n ++ [n]) := by
          unfold sDrop
          rw [if_pos he]
          obtain ⟨hlt, hx⟩ := cnt_at g.e.up hm
          unfold del
          have e : u.e = u.e.take (cnt u.e n) ++ u.e[cnt u.e n] :: u.e.drop (cnt u.e n + 1) := by rw [← List.drop_eq_getElem_cons hlt, List.take_append_drop]
          rw [hx] at e
          rw [List.eraseIdx_eq_take_drop_succ]
          generalize List.take (cnt u.e n) u.e = a at e ⊢
          generalize List.drop (cnt u.e n + 1) u.e = b at e ⊢
          rw [e]
          exact List.perm_middle.trans (List.perm_append_comm (l₁ := [n]))
        exact h.e.symm.trans (h2.trans (h1.append_right _))
      · have h1 := perm_dropV h.z g.z.up n
        have h2 : sDrop u.z n = u.z := by unfold sDrop; rw [if_neg (by rw [hz]; decide)]
        rw [h2] at h1
        exact h1
  · rw [if_pos rfl]
    have hp : peHas u n = true := by unfold peHas; rw [hz, Bool.or_true]
    rw [if_pos hp, hp]
    have hm := (has_iff _ _).1 hz
    have h1 := g.z.node n hm
    have := List.length_pos_of_mem hm
    have := g.fit
    have h0 : has u.e n = false := (has_no _ _).2 (fun he => g.apart n he hm)
    have hd : sDrop u.e n = u.e := by unfold sDrop; rw [if_neg (by rw [h0]; decide)]
    have h2 := perm_dropV h.e g.e.up n
    rw [hd] at h2
    exact ⟨⟨perm_addV h2 h0 h1.1 h1.2 (by omega), perm_dropV h.z g.z.up n⟩, rfl⟩
theorem PLike.cuts (act : List Int) : ∀ (l : List Int) {u m : Pe}, PLike u m → u.Good → PLike (l.foldl (peCut act) u) (l.foldl (rpCut act) m) := by
  intro l
  induction l with
  | nil => exact fun h _ => h
  | cons n r ih =>
    intro u m h g
    rw [List.foldl_cons, List.foldl_cons]
    unfold peCut rpCut
    split
    · exact ih h g
    · exact ih (h.down g n) (g.down n)
theorem PLike.ups : ∀ (l : List Int) {u m : Pe}, PLike u m → u.Good → PLike (l.foldl peUp u) (l.foldl rpUp m) := by
  intro l
  induction l with
  | nil => exact fun h _ => h
  | cons n r ih => exact fun h g => ih (h.up n) (g.up n)
theorem PLike.match_ {u m : Pe} (h : PLike u m) (g : u.Good) (act : List Int) : PLike (peMatch u act) (rpMatch m act) := by
  unfold peMatch rpMatch
  rw [h.all]
  exact (PLike.cuts act _ h g).ups act (g.cuts act _)
theorem PLike.new {u m q n : Pe} (h : PLike u m) (k : PLike q n) : peNew m n = peNew u q := by
  unfold peNew
  rw [k.all]
  congr 1
  funext x
  exact h.hasEq x

/-! what a match says -/
theorem up_z (u : Pe) (n : Int) : (peUp u n).z = u.z := by unfold peUp; split <;> rfl
theorem ups_z : ∀ (l : List Int) (u : Pe), (l.foldl peUp u).z = u.z := by
  intro l
  induction l with
  | nil => exact fun _ => rfl
  | cons n r ih => exact fun u => (ih _).trans (up_z u n)
theorem cuts_z (act : List Int) {x : Int} (hx : has act x = true) : ∀ (l : List Int) (u : Pe), u.Good → x ∈ u.z → x ∈ (l.foldl (peCut act) u).z := by
  intro l
  induction l with
  | nil => exact fun _ _ h => h
  | cons n r ih =>
    intro u g h
    rw [List.foldl_cons]
    unfold peCut
    split
    · exact ih u g h
    · rename_i hn
      refine ih _ (g.down n) ((drop_mem g.z.up n x).2 ⟨h, fun e => ?_⟩)
      rw [e] at hx
      exact hn hx
theorem match_z {u : Pe} (g : u.Good) (act : List Int) {x : Int} (hx : has act x = true) (h : has u.z x = true) : has (peMatch u act).z x = true := by
  unfold peMatch
  rw [ups_z, has_iff]
  exact cuts_z act hx _ u g ((has_iff _ _).1 h)
theorem all_mem (u : Pe) (x : Int) : x ∈ peAll u ↔ peHas u x = true := by
  unfold peAll
  rw [(srt_perm _).mem_iff, List.mem_append, peHas_iff]
theorem all_len (u : Pe) : (peAll u).length = u.e.length + u.z.length := by unfold peAll; rw [srt_len, List.length_append]
/-- who is left when all who aren't active are cut -/
theorem cuts_in (act : List Int) : ∀ (l : List Int) {u : Pe}, u.Good → (∀ x, peHas u x = true → x ∈ l ∨ has act x = true) → ∀ x, peHas (l.foldl (peCut act) u) x = true → has act x = true := by
  intro l
  induction l with
  | nil => exact fun _ h x hx => (h x hx).elim (fun h => nomatch h) id
  | cons n r ih =>
    intro u g h
    rw [List.foldl_cons]
    unfold peCut
    split
    · rename_i hn
      refine ih g fun x hx => ?_
      rcases h x hx with h1 | h1
      · rcases List.mem_cons.1 h1 with rfl | h1
        · exact .inr hn
        · exact .inl h1
      · exact .inr h1
    · refine ih (g.down n) fun x hx => ?_
      rw [peHas_iff] at hx
      unfold peDown at hx
      simp only at hx
      rw [drop_mem g.e.up, drop_mem g.z.up] at hx
      have hne : x ≠ n := hx.elim (fun h => h.2) (fun h => h.2)
      have hu : peHas u x = true := (peHas_iff u x).2 (hx.elim (fun h => .inl h.1) (fun h => .inr h.1))
      rcases h x hu with h1 | h1
      · rcases List.mem_cons.1 h1 with rfl | h1
        · exact absurd rfl hne
        · exact .inl h1
      · exact .inr h1
theorem up_sub {u : Pe} {n x : Int} (h : peHas (peUp u n) x = true) : x = n ∨ peHas u x = true := by
  unfold peUp at h
  split at h
  · exact .inr h
  · rw [peHas_iff] at h
    rcases h with h | h
    · rcases peAdd_sub h with e | h
      · exact .inl e
      · exact .inr ((peHas_iff _ _).2 (.inl h))
    · exact .inr ((peHas_iff _ _).2 (.inr h))
theorem up_keep {u : Pe} (n : Int) {x : Int} (h : peHas u x = true) : peHas (peUp u n) x = true := by
  unfold peUp
  split
  · exact h
  · rw [peHas_iff] at h ⊢
    rcases h with h | h
    · refine .inl ?_
      simp only
      unfold sAdd
      split
      · exact h
      · split
        · exact (ins_mem _ _ _).2 (.inr h)
        · exact h
    · exact .inr h
theorem up_grow (u : Pe) (n : Int) : u.e.length + u.z.length ≤ (peUp u n).e.length + (peUp u n).z.length := by
  unfold peUp
  split
  · exact Nat.le_refl _
  · simp only
    unfold sAdd
    split
    · exact Nat.le_refl _
    · split
      · rw [ins_length]; omega
      · exact Nat.le_refl _
/-- a node that comes up is there, or can't be -/
def Stuck (u : Pe) (n : Int) : Prop := peUp u n = u
theorem stuck_iff (u : Pe) (n : Int) : Stuck u n ↔ peHas u n = true ∨ 64 ≤ u.e.length + u.z.length ∨ ¬ (1 ≤ n ∧ n ≤ 65535) := by
  unfold Stuck peUp peUpNo
  constructor
  · intro h
    by_cases h1 : peHas u n = true
    · exact .inl h1
    · by_cases h2 : 64 ≤ u.e.length + u.z.length
      · exact .inr (.inl h2)
      · refine .inr (.inr fun hv => ?_)
        rw [if_neg (by rw [Bool.or_eq_true]; rintro (h | h); exact h1 h; exact h2 (of_decide_eq_true h))] at h
        have h3 := congrArg Pe.e h
        simp only at h3
        have h4 : has u.e n = true := by
          rw [has_iff, ← h3]
          exact (sAdd_mem hv.1 hv.2 (by omega) n).2 (.inl rfl)
        exact h1 ((peHas_iff _ _).2 (.inl ((has_iff _ _).1 h4)))
  · rintro (h | h | h)
    · rw [h, Bool.true_or, if_pos rfl]
    · rw [decide_eq_true h, Bool.or_true, if_pos rfl]
    · split
      · rfl
      · unfold sAdd
        split
        · rfl
        · rw [if_neg (fun hh => h ⟨hh.1, hh.2.1⟩)]
theorem Stuck.up {u : Pe} {n : Int} (h : Stuck u n) (k : Int) : Stuck (peUp u k) n := by
  rw [stuck_iff] at h ⊢
  rcases h with h | h | h
  · exact .inl (up_keep k h)
  · exact .inr (.inl (Nat.le_trans h (up_grow u k)))
  · exact .inr (.inr h)
theorem up_stuck (u : Pe) (n : Int) : Stuck (peUp u n) n := by
  rw [stuck_iff]
  by_cases h : peUpNo u n = true
  · have : peUp u n = u := by unfold peUp; rw [if_pos h]
    rw [this]
    unfold peUpNo at h
    rw [Bool.or_eq_true] at h
    exact h.elim .inl (fun h => .inr (.inl (of_decide_eq_true h)))
  · by_cases hv : 1 ≤ n ∧ n ≤ 65535
    · refine .inl ?_
      unfold peUp
      rw [if_neg h, peHas_iff]
      unfold peUpNo at h
      rw [Bool.or_eq_true, not_or] at h
      have h2 : ¬ 64 ≤ u.e.length + u.z.length := fun e => h.2 (decide_eq_true e)
      exact .inl ((sAdd_mem hv.1 hv.2 (by omega) n).2 (.inl rfl))
    · exact .inr (.inr hv)
theorem ups_stuck : ∀ (l : List Int) (u : Pe), ∀ n, n ∈ l ∨ Stuck u n → Stuck (l.foldl peUp u) n := by
  intro l
  induction l with
  | nil => exact fun _ n h => h.elim (fun h => nomatch h) id
  | cons k r ih =>
    intro u n h
    rw [List.foldl_cons]
    refine ih _ n ?_
    rcases h with h | h
    · rcases List.mem_cons.1 h with rfl | h
      · exact .inr (up_stuck u n)
      · exact .inl h
    · exact .inr (h.up k)
theorem ups_none : ∀ (l : List Int) {u : Pe}, (∀ n ∈ l, Stuck u n) → l.foldl peUp u = u := by
  intro l
  induction l with
  | nil => exact fun _ => rfl
  | cons k r ih =>
    intro u h
    rw [List.foldl_cons, h k (by simp)]
    exact ih fun n hn => h n (List.mem_cons_of_mem _ hn)
theorem ups_in (act : List Int) : ∀ (l : List Int) {u : Pe}, (∀ x ∈ l, has act x = true) → (∀ x, peHas u x = true → has act x = true) → ∀ x, peHas (l.foldl peUp u) x = true → has act x = true := by
  intro l
  induction l with
  | nil => exact fun _ h => h
  | cons n r ih =>
    intro u hl h
    rw [List.foldl_cons]
    refine ih (fun x hx => hl x (List.mem_cons_of_mem _ hx)) fun x hx => ?_
    rcases up_sub hx with rfl | hx
    · exact hl _ (by simp)
    · exact h x hx
theorem cuts_none (act : List Int) : ∀ (l : List Int) (u : Pe), (∀ x ∈ l, has act x = true) → l.foldl (peCut act) u = u := by
  intro l
  induction l with
  | nil => exact fun _ _ => rfl
  | cons n r ih =>
    intro u h
    rw [List.foldl_cons]
    have : peCut act u n = u := by unfold peCut; rw [if_pos (h n (by simp))]
    rw [this]
    exact ih u fun x hx => h x (List.mem_cons_of_mem _ hx)
/-- a second match changes nothing -/
theorem match_again {u : Pe} (g : u.Good) (act : List Int) : peMatch (peMatch u act) act = peMatch u act := by
  have h1 : ∀ x, peHas (peMatch u act) x = true → has act x = true :=
    ups_in act act (fun x hx => (has_iff _ _).2 hx) (cuts_in act _ g fun x hx => .inl ((all_mem u x).2 hx))
  have h2 : ∀ n ∈ act, Stuck (peMatch u act) n := fun n hn => ups_stuck act _ n (.inl hn)
  have h3 : (peAll (peMatch u act)).foldl (peCut act) (peMatch u act) = peMatch u act := cuts_none act _ _ fun x hx => h1 x ((all_mem _ x).1 hx)
  have h4 : act.foldl peUp (peMatch u act) = peMatch u act := ups_none act h2
  generalize peMatch u act = q at h3 h4 ⊢
  unfold peMatch
  rw [h3, h4]
theorem new_none (u : Pe) : peNew u u = [] := by
  unfold peNew kept
  rw [List.filter_eq_nil_iff]
  intro x hx
  simp only [(all_mem u x).1 hx]
  decide
/-! what PeersTurns says -/
theorem prune_then {u : Pe} (g : u.Good) (k : Int) : (pePrune u k).2 = has u.e k ∧ peHas (pePrune u k).1 k = peHas u k ∧ (peHas u k = true → has (peGraft (pePrune u k).1 k).e k = true ∧ has (pePrune u k).1.z k = true) := by
  have hp : (pePrune u k).2 = has u.e k ∧ peHas (pePrune u k).1 k = peHas u k ∧ (peHas u k = true → has (pePrune u k).1.z k = true) := by
    unfold pePrune
    cases he : has u.e k
    · rw [if_neg (by decide)]
      refine ⟨rfl, rfl, fun h => ?_⟩
      unfold peHas at h
      rw [he, Bool.false_or] at h
      exact h
    · rw [if_pos rfl]
      have hm := (has_iff _ _).1 he
      have h1 := g.e.node k hm
      have := List.length_pos_of_mem hm
      have := g.fit
      have hz : has (sAdd u.z 64 k) k = true := (has_iff _ _).2 ((sAdd_mem h1.1 h1.2 (by omega) k).2 (.inl rfl))
      refine ⟨rfl, ?_, fun _ => hz⟩
      unfold peHas
      simp only
      rw [hz, he, Bool.or_true, Bool.true_or]
  refine ⟨hp.1, hp.2.1, fun h => ⟨?_, hp.2.2 h⟩⟩
  rw [graft_has (g.prune k), hp.2.1]
  exact h
theorem turn_up {u : Pe} (g : u.Good) {k : Int} (h1 : 1 ≤ k) (h2 : k ≤ 65535) : peHas u k = true ∨ (peAll u).length = 64 ∨ has (peUp u k).e k = true := by
  by_cases hk : peHas u k = true
  · exact .inl hk
  · by_cases h3 : 64 ≤ u.e.length + u.z.length
    · exact .inr (.inl (by rw [all_len]; have := g.fit; omega))
    · refine .inr (.inr ?_)
      unfold peUp peUpNo
      rw [if_neg (by rw [Bool.or_eq_true]; rintro (h | h); exact hk h; exact h3 (of_decide_eq_true h)), has_iff]
      exact (sAdd_mem h1 h2 (by omega) k).2 (.inl rfl)
theorem all_one {u : Pe} (g : u.Good) {x : Int} (h : x ∈ peAll u) : has u.e x = !has u.z x := by
  rw [all_mem, peHas_iff] at h
  rcases h with h | h
  · rw [(has_iff _ _).2 h, (has_no _ _).2 (g.apart x h)]; rfl
  · rw [(has_iff _ _).2 h, (has_no _ _).2 (fun e => g.apart x e h)]; rfl
theorem down_len {u : Pe} (g : u.Good) (k : Int) : (peAll (peDown u k)).length ≤ (peAll u).length := by
  rw [all_len, all_len]
  have := sDrop_le g.e.up k
  have := sDrop_le g.z.up k
  unfold peDown
  simp only
  omega
end Go.Proofs.Ytelepohdfcjnfaa
