/-
  Two hands shake, in plain Lean.
-/
import Derived.Test.YtdpnkikaciigoaaHandLaw
namespace Go.Proofs.Ytdpnkikaciigoaa
open Go.RowKit Go.Proofs

/-- a hand ahead of the shake -/
structure Pre (h : Hd) (s : Int) : Prop where
  hi : HI h
  self : h.v.self = s
  am : 0 < h.v.am
  asked : h.asked = []
  act : ∀ x ∈ h.v.act, 3 ≤ x ∧ x ≤ 11
theorem pre_new (s a p : Int) (ha : 1 ≤ a) : Pre (hNew s a p) s := by
  refine ⟨⟨⟨rfl, List.Perm.refl _, List.Perm.refl _, rfl, rfl⟩, List.Perm.refl _, ⟨⟨Good.nil (by simp only [hNew]; omega) (by simp only [hNew]; omega), Good.nil (by simp only [hNew]; omega) (by simp only [hNew]; omega)⟩, Good.nil (by decide) (by decide)⟩, ⟨by simp [hNew], by simp [hNew], by simp [hNew]⟩, by simp [hNew]⟩, rfl, by simp only [hNew]; omega, rfl, by simp [hNew]⟩
theorem Took.pre {h h' : Hd} {n s : Int} {o : List Ho} (t : Took h n h' o) (p : Pre h s) (hn : 3 ≤ n ∧ n ≤ 11) : Pre h' s := by
  refine ⟨t.hi, t.self.trans p.self, by rw [t.am]; exact p.am, ?_, fun x hx => ?_⟩
  · rcases t.way with ⟨-, e, -⟩ | ⟨-, -, -, e, -⟩ | ⟨-, -, old, -, -, -, e, -⟩
    · rw [e]; exact p.asked
    · rw [e]; exact p.asked
    · rw [e, p.asked]; rfl
  · rcases t.way with ⟨-, e, -⟩ | ⟨-, -, -, -, e⟩ | ⟨-, -, old, -, -, -, -, e⟩
    · rw [e] at hx; exact p.act x hx
    · rcases (e x).1 hx with rfl | hx
      · exact hn
      · exact p.act x hx
    · rcases (e x).1 hx with rfl | hx
      · exact hn
      · exact p.act x hx.1
theorem pre_step {h : Hd} {s n : Int} (p : Pre h s) (hs : s = 1 ∨ s = 2) (hn : 3 ≤ n ∧ n ≤ 11) {ds : List Int} (hr : ∀ x ∈ ds, 0 ≤ x ∧ x < 4294967296) : Pre (hOnAsk h n true ds).1 s := by
  have hne : n ≠ h.v.self := by rw [p.self]; rcases hs with rfl | rfl <;> omega
  rcases hOnAsk_law p.hi (n := n) (by omega) hne p.am true hr with ⟨h', o, t, e, -, -⟩ | ⟨-, -, e, -, -⟩
  · rw [e]; exact t.pre p hn
  · cases e
theorem shake_ask {h : Hd} (p : Pre h 1) (high : Bool) : hAsk h 2 high = (⟨h.v, [2]⟩, [⟨2, 3, high⟩]) ∧ HI ⟨h.v, [2]⟩ := by
  have h2 : (2 : Int) ∉ h.v.act := fun e => by have := p.act 2 e; omega
  have e := hAsks_of (h := h) (n := 2) (by decide) (by rw [p.self]; decide) h2 (by rw [p.asked]; simp) (by rw [p.asked]; decide) high
  have hk := (inv_ask p.hi 2 high).1.hi
  rw [e, p.asked] at hk
  rw [p.asked] at e
  exact ⟨e, hk⟩
/-- the answer of the one that is asked -/
structure Answer2 (h : Hd) (high : Bool) (h' : Hd) (o : List Ho) (a : Ho) : Prop where
  out : ∃ l, o = l ++ [a] ∧ l.length ≤ 1
  who : a.who = 1
  kind : a.kind = if high = true ∨ vaFull h.v = false then 4 else 5
  has : has h'.v.act 1 = decide (high = true ∨ vaFull h.v = false)
  good : h'.Good
theorem shake_answer {h : Hd} (p : Pre h 2) (high : Bool) {ds : List Int} (hr : ∀ x ∈ ds, 0 ≤ x ∧ x < 4294967296) : ∃ a, Answer2 h high (hOnAsk h 1 high ds).1 (hOnAsk h 1 high ds).2.1 a := by
  have h1 : (1 : Int) ∉ h.v.act := fun e => by have := p.act 1 e; omega
  have hg := (inv_onAsk p.hi 1 high hr).1.good
  rcases hOnAsk_law p.hi (n := 1) (by decide) (by rw [p.self]; decide) p.am high hr with ⟨h', o, t, e1, e2, e3⟩ | ⟨-, e0, e1, e2, e3⟩
  · have hc : high = true ∨ vaFull h.v = false := e3.resolve_left h1
    refine ⟨⟨1, 4, false⟩, ⟨o, e2, ?_⟩, rfl, by rw [if_pos hc], ?_, hg⟩
    · rcases t.way with ⟨-, -, e⟩ | ⟨-, -, e, -⟩ | ⟨-, -, old, -, -, e, -, -⟩ <;> rw [e] <;> simp
    · rw [e1, (has_iff _ _).2 t.has, decide_eq_true hc]
  · have hc : ¬ (high = true ∨ vaFull h.v = false) := by rw [e0, e1]; simp
    refine ⟨⟨1, 5, false⟩, ⟨[], e3, by simp⟩, rfl, by rw [if_neg hc], ?_, hg⟩
    rw [e2, (has_no _ _).2 h1, decide_eq_false hc]
theorem shake_no {h : Hd} (p : Pre h 1) (ds : List Int) : hOnNo ⟨h.v, [2]⟩ 2 ds = (⟨h.v, []⟩, [], ds) ∧ has h.v.act 2 = false := by
  have h2 : has h.v.act 2 = false := (has_no _ _).2 (fun e => by have := p.act 2 e; omega)
  refine ⟨?_, h2⟩
  unfold hOnNo
  rw [h2]
  rfl
structure Yes2 (h : Hd) (h' : Hd) (o : List Ho) : Prop where
  good : h'.Good
  has : has h'.v.act 2 = true
  asked : h'.asked = []
  out : (vaFull h.v = false ∧ o = []) ∨ (vaFull h.v = true ∧ ∃ old, o = [⟨old, 6, false⟩] ∧ Go.Proofs.Ytdpnkikaciigoaa.has h.v.act old = true ∧ Go.Proofs.Ytdpnkikaciigoaa.has h'.v.act old = false)
theorem shake_yes {h : Hd} (p : Pre h 1) (k : HI ⟨h.v, [2]⟩) {ds : List Int} (hr : ∀ x ∈ ds, 0 ≤ x ∧ x < 4294967296) : Yes2 h (hOnYes ⟨h.v, [2]⟩ 2 ds).1 (hOnYes ⟨h.v, [2]⟩ 2 ds).2.1 := by
  have h2 : (2 : Int) ∉ h.v.act := fun e => by have := p.act 2 e; omega
  rcases hOnYes_law k 2 p.am hr with ⟨-, t, -⟩ | ⟨e, -⟩ | ⟨e, -⟩
  · have ha : sDrop [2] 2 = [] := by decide
    refine ⟨t.hi.good, (has_iff _ _).2 t.has, ?_, ?_⟩
    · rcases t.way with ⟨e, -⟩ | ⟨-, -, -, e, -⟩ | ⟨-, -, old, -, -, -, e, -⟩
      · exact absurd e h2
      · rw [e]; exact ha
      · rw [e]; simp only [ha]; rfl
    · rcases t.way with ⟨e, -⟩ | ⟨-, e0, e, -, -⟩ | ⟨-, e0, old, o1, o2, e, -, e3⟩
      · exact absurd e h2
      · exact .inl ⟨e0, e⟩
      · refine .inr ⟨e0, old, e, (has_iff _ _).2 o1, (has_no _ _).2 (fun hm => ?_)⟩
        rcases (e3 old).1 hm with h | h
        · exact o2 h
        · exact h.2 rfl
  · exact absurd (by simp) e
  · exact absurd (by simp) e
end Go.Proofs.Ytdpnkikaciigoaa
