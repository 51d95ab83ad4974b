/-
  The law of OverlayJoins: overlays whose letters lie in one queue.
-/
import Derived.Test.YtelepohdfcjnfaaZOvLaw
import Derived.Test.YtelepohdfcjnfaaZOvSpk
namespace Go.Proofs.Ytelepohdfcjnfaa
open Go.RowKit Go.Proofs

/-- the ways that a queue of (sender, message) stands for -/
def qw (Q : List (Nat × Ms)) : Nat → Nat → List OLet := fun i j => (Q.filter (fun y => y.1 == i && y.2.who == (j : Int) + 1)).map (fun y => some y.2.mq)
def from_ (p : Nat) (outs : List Ms) : List (Nat × Ms) := outs.map (fun x => (p, x))
theorem from_other {p i j : Nat} (h : i ≠ p) (outs : List Ms) : qw (from_ p outs) i j = [] := by
  unfold qw from_
  rw [List.filter_eq_nil_iff.2 (fun y hy => ?_)]
  · rfl
  · obtain ⟨x, -, rfl⟩ := List.mem_map.1 hy
    simp only [Bool.and_eq_true, beq_iff_eq, not_and]
    exact fun e => absurd e.symm h
theorem from_same (p j : Nat) (outs : List Ms) : qw (from_ p outs) p j = (sentM outs j).map some := by
  unfold qw from_ sentM
  rw [List.filter_map, List.map_map, List.map_map]
  congr 1
  congr 1
  funext x
  simp
theorem qw_app (Q R : List (Nat × Ms)) (i j : Nat) : qw (Q ++ R) i j = qw Q i j ++ qw R i j := by
  unfold qw
  rw [List.filter_append, List.map_append]
theorem qw_push (Q : List (Nat × Ms)) (p : Nat) {outs : List Ms} (h : ∀ o ∈ outs, 1 ≤ o.who) : qw (Q ++ from_ p outs) = pushMs p (qw Q) outs := by
  funext i j
  rw [qw_app]
  by_cases e : i = p
  · subst e
    rw [pushMs_at i j outs _ h, from_same]
  · rw [pushMs_other e, from_other e, List.append_nil]
theorem qw_head {Q : List (Nat × Ms)} {a b : Nat} {x : Ms} (h : x.who = (b : Int) + 1) : qw ((a, x) :: Q) a b = some x.mq :: qw Q a b := by
  unfold qw
  rw [List.filter_cons_of_pos (by simp [h])]
  rfl
theorem qw_pop {Q : List (Nat × Ms)} {a b : Nat} {x : Ms} (h : x.who = (b : Int) + 1) : upd2 (qw ((a, x) :: Q)) a b (qw Q a b) = qw Q := by
  funext i j
  by_cases e : i = a ∧ j = b
  · obtain ⟨rfl, rfl⟩ := e
    rw [upd2_same]
  · rw [upd2_other _ _ e]
    unfold qw
    rw [List.filter_cons_of_neg]
    simp only [Bool.and_eq_true, beq_iff_eq, not_and]
    intro h1 h2
    exact e ⟨h1.symm, by omega⟩
theorem qw_nil (i j : Nat) : qw [] i j = [] := rfl
/-- how much work a letter may still make -/
def phiK (kind walk : Int) : Nat := if kind = 1 then 20 else if kind = 2 then 5 + walk.toNat else if kind = 3 then 4 else if kind = 4 ∨ kind = 5 then 2 else if kind = 7 then 2 + walk.toNat else 1
def Ms.phi (x : Ms) : Nat := phiK x.kind x.walk
def Phi (l : List Ms) : Nat := (l.map Ms.phi).sum
def PhiQ (Q : List (Nat × Ms)) : Nat := Phi (Q.map Prod.snd)
theorem Phi_app (a b : List Ms) : Phi (a ++ b) = Phi a + Phi b := by unfold Phi; rw [List.map_append, List.sum_append]
theorem Phi_cons (x : Ms) (l : List Ms) : Phi (x :: l) = x.phi + Phi l := by unfold Phi; rw [List.map_cons, List.sum_cons]
theorem Phi_nil : Phi [] = 0 := rfl
theorem phi_pos (x : Ms) : 1 ≤ x.phi := by
  unfold Ms.phi phiK
  repeat' split
  all_goals omega
theorem PhiQ_app (a b : List (Nat × Ms)) : PhiQ (a ++ b) = PhiQ a + PhiQ b := by unfold PhiQ; rw [List.map_append, Phi_app]
theorem PhiQ_from (p : Nat) (l : List Ms) : PhiQ (from_ p l) = Phi l := by
  unfold PhiQ from_
  rw [List.map_map]
  congr 1
  have : (Prod.snd ∘ fun x : Ms => (p, x)) = id := rfl
  rw [this, List.map_id]
theorem PhiQ_cons (y : Nat × Ms) (Q : List (Nat × Ms)) : PhiQ (y :: Q) = y.2.phi + PhiQ Q := Phi_cons _ _
theorem Phi_len (l : List Ms) : l.length ≤ Phi l := by
  induction l with
  | nil => exact Nat.le_refl _
  | cons x t ih => rw [Phi_cons, List.length_cons]; have := phi_pos x; omega
theorem PhiQ_len (Q : List (Nat × Ms)) : Q.length ≤ PhiQ Q := by have := Phi_len (Q.map Prod.snd); rwa [List.length_map] at this
def isAsk (x : Ms) : Bool := x.kind == 3 || x.kind == 1
def isAns (x : Ms) : Bool := x.kind == 4 || x.kind == 5
/-- what a node does with a letter, as far as OverlayJoins needs it -/
structure TkS (o o' : Ov) (fr : Int) (m : Mq) (outs : List Ms) : Prop where
  phi : Phi outs < phiK m.kind m.walk
  cfg : o'.c = o.c
  ansTo : ∀ x ∈ outs, isAns x = true → x.who = fr ∧ (m.kind = 1 ∨ m.kind = 3)
  answer : (m.kind = 1 ∨ m.kind = 3) → ∃ x, outs.filter isAns = [x] ∧ x.who = fr ∧ (m.kind = 1 ∨ m.high = true → x.kind = 4)
  askTo : ∀ x ∈ outs, isAsk x = true → x.who ∉ o.h.asked
  asked : ∀ y ∈ o'.h.asked, y ∈ o.h.asked ∨ ∃ x ∈ outs, isAsk x = true ∧ x.who = y
  drop : (m.kind = 4 ∨ m.kind = 5) → fr ∉ o'.h.asked
  keep : o.h.v.act = [] → ∀ y ∈ o.h.asked, y ∈ o'.h.asked ∨ (y = fr ∧ (m.kind = 4 ∨ m.kind = 5)) ∨ o'.h.v.act ≠ []
  got : o.h.v.act = [] → m.kind = 4 → fr ∈ o.h.asked → o'.h.v.act ≠ []
theorem byes {l : List Ho} (hk : ∀ x ∈ l, x.kind = 6) : Phi (l.map Ho.ms) = l.length ∧ (l.map Ho.ms).filter isAns = [] ∧ ∀ x ∈ l.map Ho.ms, isAsk x = false ∧ isAns x = false := by
  refine ⟨?_, ?_, ?_⟩
  · induction l with
    | nil => rfl
    | cons x t ih =>
      rw [List.map_cons, Phi_cons, ih (fun y hy => hk y (List.mem_cons_of_mem _ hy)), List.length_cons]
      have : x.ms.phi = 1 := by unfold Ms.phi Ho.ms phiK; simp [hk x List.mem_cons_self]
      omega
  · rw [List.filter_eq_nil_iff]
    intro x hx
    obtain ⟨y, hy, rfl⟩ := List.mem_map.1 hx
    simp [isAns, Ho.ms, hk y hy]
  · intro x hx
    obtain ⟨y, hy, rfl⟩ := List.mem_map.1 hx
    simp [isAns, isAsk, Ho.ms, hk y hy]
theorem took_s {h : Hd} {n : Int} {h' : Hd} {o : List Ho} (t : Took h n h' o) (hi : HI h) (ha : 0 < h.v.am) : (∀ x ∈ o, x.kind = 6) ∧ o.length ≤ 1 ∧ (∀ y ∈ h'.asked, y ∈ h.asked) ∧ (h.v.act = [] → ∀ y ∈ h.asked, y ∈ h'.asked) := by
  rcases t.way with ⟨_, rfl, rfl⟩ | ⟨_, _, rfl, e, _⟩ | ⟨_, _, old, h1, _, rfl, e, _⟩
  · exact ⟨fun x hx => (by cases hx), Nat.zero_le _, fun _ h => h, fun _ _ h => h⟩
  · rw [e]
    exact ⟨fun x hx => (by cases hx), Nat.zero_le _, fun _ h => h, fun _ _ h => h⟩
  · rw [e]
    refine ⟨fun x hx => by rw [List.mem_singleton.1 hx], Nat.le_refl _, fun y hy => ((sDrop_mem hi.good.asked.up _ _).1 hy).1, fun h0 => ?_⟩
    rw [h0] at h1
    cases h1
/-- what an Ask does -/
theorem onAsk_s {h : Hd} (hi : HI h) {n : Int} (hn : 1 ≤ n ∧ n ≤ 65535) (hs : n ≠ h.v.self) (ha : 0 < h.v.am) (high : Bool) {ds : List Int} (hr : ∀ x ∈ ds, 0 ≤ x ∧ x < 4294967296) :
    ∃ (b : List Ho) (k : Int), (hOnAsk h n high ds).2.1 = b ++ [⟨n, k, false⟩] ∧ (k = 4 ∨ k = 5) ∧ (high = true → k = 4) ∧ (∀ x ∈ b, x.kind = 6) ∧ b.length ≤ 1 ∧ (∀ y ∈ (hOnAsk h n high ds).1.asked, y ∈ h.asked) ∧ (h.v.act = [] → ∀ y ∈ h.asked, y ∈ (hOnAsk h n high ds).1.asked) ∧
      (hOnAsk h n high ds).1.v.am = h.v.am ∧ HI (hOnAsk h n high ds).1 := by
  rcases hOnAsk_law hi hn hs ha high hr with ⟨h', o, t, e1, e2, -⟩ | ⟨-, -, e0, e1, e2⟩
  · obtain ⟨t1, t2, t3, t4⟩ := took_s t hi ha
    rw [e1, e2]
    exact ⟨o, 4, rfl, .inl rfl, fun _ => rfl, t1, t2, t3, t4, t.am, t.hi⟩
  · rw [e1, e2]
    exact ⟨[], 5, rfl, .inr rfl, fun h => (by rw [e0] at h; cases h), fun x hx => (by cases hx), Nat.zero_le _, fun _ h => h, fun _ _ h => h, rfl, hi⟩
theorem ask_out {b : List Ho} {n k : Int} {F : List Ms} (hk : k = 4 ∨ k = 5) (hb : ∀ x ∈ b, x.kind = 6) (hl : b.length ≤ 1) (hF : ∀ x ∈ F, x.kind = 2) :
    Phi ((b ++ [(⟨n, k, false⟩ : Ho)]).map Ho.ms ++ F) ≤ 3 + Phi F ∧ (∀ x ∈ (b ++ [(⟨n, k, false⟩ : Ho)]).map Ho.ms ++ F, isAns x = true → x.who = n) ∧ ((b ++ [(⟨n, k, false⟩ : Ho)]).map Ho.ms ++ F).filter isAns = [(⟨n, k, false⟩ : Ho).ms] ∧ ∀ x ∈ (b ++ [(⟨n, k, false⟩ : Ho)]).map Ho.ms ++ F, isAsk x = false := by
  obtain ⟨b1, b2, b3⟩ := byes hb
  have f1 : F.filter isAns = [] := by
    rw [List.filter_eq_nil_iff]
    intro x hx
    simp [isAns, hF x hx]
  have f2 : isAns (⟨n, k, false⟩ : Ho).ms = true := by rcases hk with rfl | rfl <;> rfl
  have f3 : isAsk (⟨n, k, false⟩ : Ho).ms = false := by rcases hk with rfl | rfl <;> rfl
  refine ⟨?_, ?_, ?_, ?_⟩
  · rw [Phi_app, List.map_append, Phi_app, b1]
    have : Phi [(⟨n, k, false⟩ : Ho).ms] = 2 := by
      rw [Phi_cons, Phi_nil]
      unfold Ms.phi Ho.ms phiK
      rcases hk with rfl | rfl <;> simp
    show b.length + Phi [(⟨n, k, false⟩ : Ho).ms] + Phi F ≤ _
    omega
  · intro x hx h
    rw [List.map_append] at hx
    rcases List.mem_append.1 hx with hx | hx
    · rcases List.mem_append.1 hx with hx | hx
      · rw [(b3 x hx).2] at h; cases h
      · rw [List.mem_singleton.1 hx]; rfl
    · have := hF x hx
      simp [isAns, this] at h
  · rw [List.filter_append, List.map_append, List.filter_append, b2, f1]
    show List.filter isAns [(⟨n, k, false⟩ : Ho).ms] ++ [] = _
    rw [List.filter_cons_of_pos f2]
    rfl
  · intro x hx
    rw [List.map_append] at hx
    rcases List.mem_append.1 hx with hx | hx
    · rcases List.mem_append.1 hx with hx | hx
      · exact (b3 x hx).1
      · rw [List.mem_singleton.1 hx]; exact f3
    · have := hF x hx
      simp [isAsk, this]
theorem but_len {l : List Int} {x : Int} (h : x ∈ l) : (but l [x]).length + 1 ≤ l.length := by
  have : (but l [x]).length < l.length := by
    unfold but kept
    exact List.length_filter_lt_length_iff_exists.2 ⟨x, h, by simp [has]⟩
  omega
theorem fwds (far fr : Int) (l : List Int) (h3 : far = 3) : Phi (l.map (fwd far fr)) = 8 * l.length ∧ ∀ x ∈ l.map (fwd far fr), x.kind = 2 := by
  subst h3
  refine ⟨?_, ?_⟩
  · induction l with
    | nil => rfl
    | cons x t ih =>
      rw [List.map_cons, Phi_cons, ih, List.length_cons]
      have : (fwd 3 fr x).phi = 8 := rfl
      omega
  · intro x hx
    obtain ⟨y, -, rfl⟩ := List.mem_map.1 hx
    rfl
theorem quiet_s {o o' : Ov} {fr : Int} {m : Mq} {outs : List Ms} (hk : m.kind = 2 ∨ 6 ≤ m.kind) (hc : o'.c = o.c) (ha : o'.h.asked = o.h.asked) (hp : Phi outs < phiK m.kind m.walk) (ho : ∀ x ∈ outs, isAsk x = false ∧ isAns x = false) : TkS o o' fr m outs where
  phi := hp
  cfg := hc
  ansTo := fun x hx h => by rw [(ho x hx).2] at h; cases h
  answer := fun h => by omega
  askTo := fun x hx h => by rw [(ho x hx).1] at h; cases h
  asked := fun y hy => .inl (ha ▸ hy)
  drop := fun h => by omega
  keep := fun _ y hy => .inl (ha ▸ hy)
  got := fun _ h => by omega
set_option maxHeartbeats 1000000 in
theorem oTake_s {o : Ov} {fr : Int} {m : Mq} {ds : List Int} (hi : HI o.h) (hn : 1 ≤ fr ∧ fr ≤ 65535) (hs : fr ≠ o.h.v.self) (ham : o.h.v.am = 3) (hfar : o.c.far = 3) (hk : 1 ≤ m.kind ∧ m.kind ≤ 8)
    (hr : ∀ x ∈ ds, 0 ≤ x ∧ x < 4294967296) : TkS o (oTake o fr m ds).1 fr m (oTake o fr m ds).2.1 := by
  have ha : 0 < o.h.v.am := by omega
  by_cases k1 : m.kind = 1
  · have e : oTake o fr m ds = oJoins o fr ds := by unfold oTake; rw [if_pos k1]
    rw [e]
    obtain ⟨b, k, e1, e2, e3, e4, e5, e6, e7, e8, e9⟩ := onAsk_s hi hn hs ha true hr
    unfold oJoins
    simp only
    rw [e1]
    obtain ⟨F, hF⟩ : ∃ F, F = (if has (hOnAsk o.h fr true ds).1.v.act fr = true then (but (hOnAsk o.h fr true ds).1.v.act [fr]).map (fwd o.c.far fr) else []) := ⟨_, rfl⟩
    rw [← hF]
    have hF2 : Phi F ≤ 16 ∧ ∀ x ∈ F, x.kind = 2 := by
      rw [hF]
      split
      · rename_i hh
        obtain ⟨f1, f2⟩ := fwds o.c.far fr (but (hOnAsk o.h fr true ds).1.v.act [fr]) hfar
        have h1 := but_len ((has_iff _ _).1 hh)
        have h2 := e9.good.v.act.fit
        rw [e8, ham] at h2
        exact ⟨by omega, f2⟩
      · exact ⟨Nat.zero_le _, fun x hx => (by cases hx)⟩
    obtain ⟨p1, p2, p3, p4⟩ := ask_out (n := fr) e2 e4 e5 hF2.2
    exact {
      phi := by have := hF2.1; unfold phiK; rw [if_pos k1]; omega
      cfg := rfl
      ansTo := fun x hx h => ⟨p2 x hx h, .inl k1⟩
      answer := fun _ => ⟨_, p3, rfl, fun _ => e3 rfl⟩
      askTo := fun x hx h => by rw [p4 x hx] at h; cases h
      asked := fun y hy => .inl (e6 y hy)
      drop := fun h => by omega
      keep := fun h y hy => .inl (e7 h y hy)
      got := fun _ h => by omega }
  by_cases k2 : m.kind = 2
  · have e : oTake o fr m ds = oForward o fr m ds := by unfold oTake; rw [if_neg k1, if_pos k2]
    rw [e]
    have noAns : ¬ (m.kind = 1 ∨ m.kind = 3) := by omega
    have no45 : ¬ (m.kind = 4 ∨ m.kind = 5) := by omega
    unfold oForward
    split
    · simp only
      rcases hAsk_law hi m.node false with ⟨e1, -, h2, -, h4, -⟩ | e1
      · unfold oAsk
        rw [e1]
        exact {
          phi := by
            have : Phi ([(⟨m.node, 3, false⟩ : Ho)].map Ho.ms) = 4 := rfl
            rw [this]; unfold phiK; rw [if_neg k1, if_pos k2]; omega
          cfg := rfl
          ansTo := fun x hx h => by
            rw [List.mem_singleton.1 (show x ∈ [(⟨m.node, 3, false⟩ : Ho).ms] from hx)] at h
            cases h
          answer := fun h => absurd h noAns
          askTo := fun x hx _ => by
            rw [List.mem_singleton.1 (show x ∈ [(⟨m.node, 3, false⟩ : Ho).ms] from hx)]
            exact h2
          asked := fun y hy => by
            rcases (h4 y).1 hy with rfl | h
            · exact .inr ⟨(⟨m.node, 3, false⟩ : Ho).ms, List.mem_singleton.2 rfl, rfl, rfl⟩
            · exact .inl h
          drop := fun h => absurd h no45
          keep := fun _ y hy => .inl ((h4 y).2 (.inr hy))
          got := fun _ h => by omega }
      · unfold oAsk
        rw [e1]
        exact quiet_s (.inl k2) rfl rfl (by show 0 < _; unfold phiK; rw [if_neg k1, if_pos k2]; omega) (fun x hx => by cases hx)
    · rename_i hj
      have hj2 := wJoin_on hr (by simpa using hj)
      refine quiet_s (.inl k2) rfl rfl ?_ (fun x hx => ?_)
      · rw [Phi_cons, Phi_nil]
        unfold Ms.phi Mq.to phiK
        simp only
        rw [if_neg k1, if_pos k2, if_neg k1, if_pos k2]
        omega
      · rw [List.mem_singleton.1 hx]
        unfold isAsk isAns Mq.to
        simp [k2]
  by_cases k3 : m.kind = 3
  · have e : oTake o fr m ds = oHand o (hOnAsk o.h fr m.high ds) := by unfold oTake; rw [if_neg k1, if_neg k2, if_pos k3]
    rw [e]
    obtain ⟨b, k, e1, e2, e3, e4, e5, e6, e7, e8, e9⟩ := onAsk_s hi hn hs ha m.high hr
    unfold oHand
    simp only
    rw [e1]
    obtain ⟨p1, p2, p3, p4⟩ := ask_out (n := fr) (F := []) e2 e4 e5 (fun x hx => (by cases hx))
    rw [List.append_nil] at p1 p2 p3 p4
    rw [Phi_nil] at p1
    exact {
      phi := by unfold phiK; rw [if_neg k1, if_neg k2, if_pos k3]; omega
      cfg := rfl
      ansTo := fun x hx h => ⟨p2 x hx h, .inr k3⟩
      answer := fun _ => ⟨_, p3, rfl, fun h => e3 (h.resolve_left k1)⟩
      askTo := fun x hx h => by rw [p4 x hx] at h; cases h
      asked := fun y hy => .inl (e6 y hy)
      drop := fun h => by omega
      keep := fun h y hy => .inl (e7 h y hy)
      got := fun _ h => by omega }
  by_cases k4 : m.kind = 4
  · have e : oTake o fr m ds = oHand o (hOnYes o.h fr ds) := by unfold oTake; rw [if_neg k1, if_neg k2, if_neg k3, if_pos k4]
    rw [e]
    unfold oHand
    simp only
    have ph : ∀ l : List Ho, (∀ x ∈ l, x.kind = 6) → l.length ≤ 1 → Phi (l.map Ho.ms) < phiK m.kind m.walk := fun l h1 h2 => by
      rw [(byes h1).1]; unfold phiK; rw [if_neg k1, if_neg k2, if_neg k3, if_pos (.inl k4)]; omega
    rcases hOnYes_law hi fr ha hr with ⟨h0, t, hd⟩ | ⟨h0, _, e1⟩ | ⟨h0, _, e1⟩
    · obtain ⟨t1, t2, t3, t4⟩ := took_s t hd ha
      obtain ⟨-, b2, b3⟩ := byes t1
      exact {
        phi := ph _ t1 t2
        cfg := rfl
        ansTo := fun x hx h => by rw [(b3 x hx).2] at h; cases h
        answer := fun h => by omega
        askTo := fun x hx h => by rw [(b3 x hx).1] at h; cases h
        asked := fun y hy => .inl ((sDrop_mem hi.good.asked.up _ _).1 (t3 y hy)).1
        drop := fun _ hf => ((sDrop_mem hi.good.asked.up _ _).1 (t3 _ hf)).2 rfl
        keep := fun h y hy => by
          by_cases hyf : y = fr
          · exact .inr (.inl ⟨hyf, .inl k4⟩)
          · exact .inl (t4 h y ((sDrop_mem hi.good.asked.up _ _).2 ⟨hy, hyf⟩))
        got := fun _ _ _ h => by have := t.has; rw [h] at this; cases this }
    · rw [e1]
      exact {
        phi := ph [] (fun x hx => by cases hx) (Nat.zero_le _)
        cfg := rfl
        ansTo := fun x hx => by cases hx
        answer := fun h => by omega
        askTo := fun x hx => by cases hx
        asked := fun y hy => .inl hy
        drop := fun _ => h0
        keep := fun _ y hy => .inl hy
        got := fun _ _ h => absurd h h0 }
    · rw [e1]
      have hb : ∀ x ∈ [(⟨fr, 6, false⟩ : Ho)], x.kind = 6 := fun x hx => by rw [List.mem_singleton.1 hx]
      obtain ⟨-, b2, b3⟩ := byes hb
      exact {
        phi := ph _ hb (Nat.le_refl _)
        cfg := rfl
        ansTo := fun x hx h => by rw [(b3 x hx).2] at h; cases h
        answer := fun h => by omega
        askTo := fun x hx h => by rw [(b3 x hx).1] at h; cases h
        asked := fun y hy => .inl hy
        drop := fun _ => h0
        keep := fun _ y hy => .inl hy
        got := fun _ _ h => absurd h h0 }
  by_cases k5 : m.kind = 5
  · have e : oTake o fr m ds = oHand o (hOnNo o.h fr ds) := by unfold oTake; rw [if_neg k1, if_neg k2, if_neg k3, if_neg k4, if_pos k5]
    rw [e]
    unfold oHand
    simp only
    obtain ⟨-, -, -, c4, -, c6⟩ := hOnNo_law hi fr hr
    have hb : (∀ x ∈ (hOnNo o.h fr ds).2.1, x.kind = 6) ∧ (hOnNo o.h fr ds).2.1.length ≤ 1 := by
      rw [c6]
      split
      · exact ⟨fun x hx => (by rw [List.mem_singleton.1 hx]), Nat.le_refl _⟩
      · exact ⟨fun x hx => (by cases hx), Nat.zero_le _⟩
    obtain ⟨b1, b2, b3⟩ := byes hb.1
    exact {
      phi := by have := hb.2; rw [b1]; unfold phiK; rw [if_neg k1, if_neg k2, if_neg k3, if_pos (.inr k5)]; omega
      cfg := rfl
      ansTo := fun x hx h => by rw [(b3 x hx).2] at h; cases h
      answer := fun h => by omega
      askTo := fun x hx h => by rw [(b3 x hx).1] at h; cases h
      asked := fun y hy => .inl ((c4 y).1 hy).1
      drop := fun _ hf => ((c4 fr).1 hf).2 rfl
      keep := fun _ y hy => by
        by_cases hyf : y = fr
        · exact .inr (.inl ⟨hyf, .inr k5⟩)
        · exact .inl ((c4 y).2 ⟨hy, hyf⟩)
      got := fun _ h => by omega }
  have k6 : 6 ≤ m.kind := by omega
  have pk : 1 ≤ phiK m.kind m.walk := phi_pos ⟨0, m.kind, 0, m.walk, false, []⟩
  unfold oTake
  rw [if_neg k1, if_neg k2, if_neg k3, if_neg k4, if_neg k5]
  split
  · exact quiet_s (.inr k6) rfl rfl pk (fun x hx => by cases hx)
  split
  · rename_i k7
    unfold mShuf
    split
    · rename_i hm
      have h1 := (wMix_next hr hm).1
      refine quiet_s (.inr k6) rfl rfl ?_ (fun x hx => ?_)
      · rw [Phi_cons, Phi_nil]
        unfold Ms.phi Mq.to phiK
        simp only
        rw [k7]
        simp
        omega
      · rw [List.mem_singleton.1 hx]
        unfold isAsk isAns Mq.to
        simp [k7]
    · refine quiet_s (.inr k6) rfl rfl ?_ (fun x hx => ?_)
      · split
        · rw [Phi_cons, Phi_nil, k7]
          unfold Ms.phi phiK
          simp
          omega
        · exact pk
      · simp only at hx
        split at hx
        · rw [List.mem_singleton.1 hx]
          exact ⟨rfl, rfl⟩
        · cases hx
  split
  · exact quiet_s (.inr k6) rfl rfl pk (fun x hx => by cases hx)
  · exact quiet_s (.inr k6) rfl rfl pk (fun x hx => by cases hx)
/-- whom a tick asks, as far as OverlayJoins needs it -/
structure FlS (o o' : Ov) (F : List Ms) : Prop where
  cfg : o'.c = o.c
  v : o'.h.v = o.h.v
  out : (F = [] ∧ o'.h.asked = o.h.asked) ∨ ∃ x, F = [x] ∧ isAsk x = true ∧ isAns x = false ∧ x.phi ≤ 20 ∧ x.who ∉ o.h.asked ∧ (∀ y, y ∈ o'.h.asked ↔ y = x.who ∨ y ∈ o.h.asked) ∧ (o.h.v.act = [] → x.kind = 1 ∨ x.high = true)
theorem FlS.none (o : Ov) : FlS o o [] := ⟨rfl, rfl, .inl ⟨rfl, rfl⟩⟩
theorem ask_fl {o : Ov} (hi : HI o.h) (n : Int) (high : Bool) (hh : o.h.v.act = [] → high = true) (c : Ov → Ov) (hc : c = id) : FlS o (c (oAsk o n high).1) ((oAsk o n high).2.map Ho.ms) := by
  subst hc
  unfold oAsk
  rcases hAsk_law hi n high with ⟨e1, -, h2, -, h4, -⟩ | e1
  · rw [e1]
    exact ⟨rfl, rfl, .inr ⟨(⟨n, 3, high⟩ : Ho).ms, rfl, rfl, rfl, by show (4 : Nat) ≤ 20; decide, h2, h4, fun h => .inr (hh h)⟩⟩
  · rw [e1]
    exact FlS.none o
theorem join_fl {o : Ov} (hi : HI o.h) : FlS o (oJoin o).1 ((oJoin o).2.map Ho.ms) := by
  unfold oJoin oAsk
  split
  · exact FlS.none o
  · simp only
    rcases hAsk_law hi (oSeed o) false with ⟨e1, -, h2, -, h4, -⟩ | e1
    · rw [e1]
      exact ⟨rfl, rfl, .inr ⟨(⟨oSeed o, 1, false⟩ : Ho).ms, rfl, rfl, rfl, by show (20 : Nat) ≤ 20; decide, h2, h4, fun _ => .inl rfl⟩⟩
    · rw [e1]
      exact ⟨rfl, rfl, .inl ⟨rfl, rfl⟩⟩
theorem oFill_s {o : Ov} (hi : HI o.h) (ds : List Int) : FlS o (oFill o ds).1 ((oFill o ds).2.1.map Ho.ms) := by
  unfold oFill
  split
  · exact FlS.none o
  split
  · exact FlS.none o
  split
  · exact ask_fl hi _ _ (fun h => by rw [h]; rfl) id rfl
  split
  · exact FlS.none o
  · exact join_fl hi
/-- a node without an active one asks -/
theorem oFill_go {o : Ov} {ds_ : List Int} (hk : o.Ok) (ham : 0 < o.h.v.am) (hr : ∀ x ∈ ds_, 0 ≤ x ∧ x < 4294967296) (h0 : o.h.v.act = []) (h1 : o.h.asked = []) (hp : ∀ x ∈ o.h.v.pas, 1 ≤ x ∧ x ≤ 65535 ∧ x ≠ o.h.v.self) (hs : o.c.seeds ≠ []) (hs2 : ∀ x ∈ o.c.seeds, 1 ≤ x ∧ x ≤ 65535 ∧ x ≠ o.h.v.self) : (oFill o ds_).2.1 ≠ [] := by
  have hgo : ∀ (n : Int) (high : Bool), 1 ≤ n ∧ n ≤ 65535 ∧ n ≠ o.h.v.self → (hAsk o.h n high).2 ≠ [] := fun n high hn => by
    rw [hAsks_of ⟨hn.1, hn.2.1⟩ hn.2.2 (by rw [h0]; simp) (by rw [h1]; simp) (by rw [h1]; decide) high]
    simp
  unfold oFill
  rw [if_neg (by unfold vaFull; simp [h0]; omega), if_neg (by rw [h1]; decide)]
  split
  · rename_i hh
    have hne : o.h.v.pas ≠ [] := fun e => by unfold oneV at hh; rw [e, if_pos rfl] at hh; cases hh
    exact hgo _ _ (hp _ (oneV_mem hr hne).1)
  · rw [if_neg (by rw [h0]; decide)]
    unfold oJoin
    rw [if_neg hs]
    have hm : oSeed o ∈ o.c.seeds := by
      have hl : 0 < o.c.seeds.length := List.length_pos_iff.2 hs
      unfold oSeed
      have h1 := tmod_pos (x := o.seed) (m := o.c.seeds.length) hk.seed.1 (by omega)
      rw [List.getD_eq_getElem?_getD, List.getElem?_eq_getElem (by omega)]
      exact List.getElem_mem _
    have h2 := hgo (oSeed o) false (hs2 _ hm)
    intro e
    exact h2 (List.map_eq_nil_iff.1 e)
/-- what a tick does, as far as OverlayJoins needs it -/
structure TcS (o o' : Ov) (outs : List Ms) : Prop where
  phi : Phi outs ≤ 25
  cfg : o'.c = o.c
  v : o'.h.v = o.h.v
  ans : ∀ x ∈ outs, isAns x = false
  askTo : ∀ x ∈ outs, isAsk x = true → x.who ∉ o.h.asked
  asked : ∀ y ∈ o'.h.asked, y ∈ o.h.asked ∨ ∃ x ∈ outs, isAsk x = true ∧ x.who = y
  keep : ∀ y ∈ o.h.asked, y ∈ o'.h.asked
  start : o.h.v.act = [] → outs.filter isAsk ≠ [] → ∃ x, outs.filter isAsk = [x] ∧ x.who ∈ o'.h.asked ∧ (x.kind = 1 ∨ x.high = true)
theorem tc_of {o o1 o' : Ov} {F S : List Ms} (f : FlS o o1 F) (hS : ∀ x ∈ S, x.kind = 7) (hp : Phi S ≤ 5) (hc : o'.c = o1.c) (hh : o'.h = o1.h) : TcS o o' (F ++ S) := by
  have s1 : ∀ x ∈ S, isAsk x = false ∧ isAns x = false := fun x hx => by unfold isAsk isAns; simp [hS x hx]
  have s2 : S.filter isAsk = [] := List.filter_eq_nil_iff.2 (fun x hx => by rw [(s1 x hx).1]; decide)
  rcases f.out with ⟨rfl, e⟩ | ⟨x, rfl, a1, a2, a3, a4, a5, a6⟩
  · exact {
      phi := by rw [List.nil_append]; omega
      cfg := hc.trans f.cfg
      v := by rw [hh]; exact f.v
      ans := fun x hx => (s1 x hx).2
      askTo := fun x hx h => by rw [(s1 x hx).1] at h; cases h
      asked := fun y hy => .inl (by rw [hh, e] at hy; exact hy)
      keep := fun y hy => by rw [hh, e]; exact hy
      start := fun _ h => absurd s2 h }
  · exact {
      phi := by rw [Phi_app, Phi_cons, Phi_nil]; omega
      cfg := hc.trans f.cfg
      v := by rw [hh]; exact f.v
      ans := fun y hy => by
        rcases List.mem_append.1 hy with h | h
        · rw [List.mem_singleton.1 h]; exact a2
        · exact (s1 y h).2
      askTo := fun y hy h => by
        rcases List.mem_append.1 hy with h' | h'
        · rw [List.mem_singleton.1 h']; exact a4
        · rw [(s1 y h').1] at h; cases h
      asked := fun y hy => by
        rw [hh] at hy
        rcases (a5 y).1 hy with rfl | h
        · exact .inr ⟨x, List.mem_append.2 (.inl (List.mem_singleton.2 rfl)), a1, rfl⟩
        · exact .inl h
      keep := fun y hy => by rw [hh]; exact (a5 y).2 (.inr hy)
      start := fun h _ => ⟨x, by rw [List.filter_append, s2, List.filter_cons_of_pos a1]; rfl, by rw [hh]; exact (a5 _).2 (.inl rfl), a6 h⟩ }
theorem oStart_s (v : Vw) (a b : Int) (ds : List Int) : (∀ x ∈ (oStart v a b 3 ds).1, x.kind = 7) ∧ Phi (oStart v a b 3 ds).1 ≤ 5 := by
  unfold oStart
  split
  · exact ⟨fun x hx => (by cases hx), Nat.zero_le _⟩
  · refine ⟨fun x hx => (by rw [List.mem_singleton.1 hx]), ?_⟩
    rw [Phi_cons, Phi_nil]
    exact Nat.le_refl _
theorem oTick_s {o : Ov} (hi : HI o.h) (hfar : o.c.far = 3) (ds : List Int) : TcS o (oTick o ds).1 (oTick o ds).2.1 := by
  have f := oFill_s hi ds
  unfold oTick
  split
  · have hf : (oFill o ds).1.c.far = 3 := by rw [f.cfg, hfar]
    rw [hf]
    obtain ⟨p1, p2⟩ := oStart_s (oFill o ds).1.h.v (oFill o ds).1.c.mixA (oFill o ds).1.c.mixP (oFill o ds).2.2
    exact tc_of f p1 p2 rfl rfl
  · have := tc_of (o' := { (oFill o ds).1 with ticks := ((oFill o ds).1.ticks + 1).tmod (oFill o ds).1.c.every }) (S := []) f (fun x hx => (by cases hx)) (Nat.zero_le _) rfl rfl
    rw [List.append_nil] at this
    exact this
theorem oTick_go {o : Ov} {ds : List Int} (h : (oFill o ds).2.1 ≠ []) : ∃ x ∈ (oFill o ds).2.1.map Ho.ms, x ∈ (oTick o ds).2.1 := by
  obtain ⟨y, t, e⟩ := List.exists_cons_of_ne_nil h
  refine ⟨y.ms, List.mem_map.2 ⟨y, by rw [e]; exact List.mem_cons_self, rfl⟩, ?_⟩
  have hy : y.ms ∈ (oFill o ds).2.1.map Ho.ms := List.mem_map.2 ⟨y, by rw [e]; exact List.mem_cons_self, rfl⟩
  unfold oTick
  split
  · exact List.mem_append.2 (.inl hy)
  · exact hy
theorem oTick_start {o : Ov} {ds : List Int} (hi : HI o.h) (hfar : o.c.far = 3) (h0 : o.h.v.act = []) (h : (oFill o ds).2.1 ≠ []) :
    ∃ x, (oTick o ds).2.1.filter isAsk = [x] ∧ x.who ∈ (oTick o ds).1.h.asked ∧ (x.kind = 1 ∨ x.high = true) := by
  refine (oTick_s hi hfar ds).start h0 (fun e => ?_)
  obtain ⟨x, hx, hx2⟩ := oTick_go h
  have hA : isAsk x = true := by
    rcases (oFill_s hi ds).out with ⟨e2, -⟩ | ⟨z, e2, a1, -⟩
    · rw [e2] at hx; cases hx
    · rw [e2] at hx; rw [List.mem_singleton.1 hx]; exact a1
  exact (List.filter_eq_nil_iff.1 e) x hx2 hA
/-- what stays true of the overlays and their queue -/
structure JI (N : Nat) (o : Nat → Ov) (Q : List (Nat × Ms)) : Prop where
  inv : OInv N 3 6 ⟨o, qw Q⟩
  cfg : ∀ i, i < N → (o i).c = (oNew ((i : Int) + 1) (cfg13 3 6)).c
  asked : ∀ i, i < N → ∀ y ∈ (o i).h.asked, ∃ x ∈ Q, (x.1 = i ∧ x.2.who = y ∧ isAsk x.2 = true) ∨ ((x.1 : Int) + 1 = y ∧ x.2.who = (i : Int) + 1 ∧ isAns x.2 = true)
  who : ∀ x ∈ Q, x.1 < N ∧ OutOk N x.1 x.2
theorem JI.far {N : Nat} {o : Nat → Ov} {Q : List (Nat × Ms)} (k : JI N o Q) {i : Nat} (hi : i < N) : (o i).c.far = 3 := by rw [k.cfg i hi]; rfl
theorem JI.am {N : Nat} {o : Nat → Ov} {Q : List (Nat × Ms)} (k : JI N o Q) {i : Nat} (hi : i < N) : (o i).h.v.am = 3 := (k.inv.am i hi).1
theorem JI.self {N : Nat} {o : Nat → Ov} {Q : List (Nat × Ms)} (k : JI N o Q) {i : Nat} (hi : i < N) : (o i).h.v.self = (i : Int) + 1 := k.inv.net.self i hi
theorem JI.hi {N : Nat} {o : Nat → Ov} {Q : List (Nat × Ms)} (k : JI N o Q) {i : Nat} (hi : i < N) : HI (o i).h := k.inv.net.hi i hi
theorem mem_from {p : Nat} {outs : List Ms} {x : Ms} (h : x ∈ outs) : (p, x) ∈ from_ p outs := List.mem_map.2 ⟨x, h, rfl⟩
theorem JI.tick {N : Nat} {o : Nat → Ov} {Q : List (Nat × Ms)} (k : JI N o Q) {a : Nat} (ha : a < N) {ds : List Int} (hr : ∀ x ∈ ds, 0 ≤ x ∧ x < 4294967296) :
    JI N (upd o a (oTick (o a) ds).1) (Q ++ from_ a (oTick (o a) ds).2.1) := by
  obtain ⟨t1, t2⟩ := k.inv.tick ha hr
  have T := oTick_s (k.hi ha) (k.far ha) ds
  have h1 : ∀ x ∈ (oTick (o a) ds).2.1, 1 ≤ x.who := fun x hx => (t2 x hx).who.1
  refine ⟨by rw [qw_push Q a h1]; exact t1, fun i hi => ?_, fun i hi y hy => ?_, fun x hx => ?_⟩
  · by_cases e : i = a
    · subst e; rw [upd_same, T.cfg]; exact k.cfg i hi
    · rw [upd_other _ _ e]; exact k.cfg i hi
  · by_cases e : i = a
    · subst e
      rw [upd_same] at hy
      rcases T.asked y hy with h | ⟨x, hx, h2, h3⟩
      · obtain ⟨x, hx, h2⟩ := k.asked i hi y h
        exact ⟨x, List.mem_append.2 (.inl hx), h2⟩
      · exact ⟨(i, x), List.mem_append.2 (.inr (mem_from hx)), .inl ⟨rfl, h3, h2⟩⟩
    · rw [upd_other _ _ e] at hy
      obtain ⟨x, hx, h2⟩ := k.asked i hi y hy
      exact ⟨x, List.mem_append.2 (.inl hx), h2⟩
  · rcases List.mem_append.1 hx with h | h
    · exact k.who x h
    · obtain ⟨z, hz, rfl⟩ := List.mem_map.1 h
      exact ⟨ha, t2 z hz⟩
/-- the letter at the queue's head -/
theorem JI.head {N : Nat} {o : Nat → Ov} {Q : List (Nat × Ms)} {a : Nat} {x : Ms} (k : JI N o ((a, x) :: Q)) : a < N ∧ ∃ b : Nat, b < N ∧ a ≠ b ∧ x.who = (b : Int) + 1 ∧ MOk N x.mq := by
  obtain ⟨h1, h2⟩ := k.who (a, x) List.mem_cons_self
  have h3 := h2.who
  simp only at h1 h3
  exact ⟨h1, (x.who - 1).toNat, by omega, fun e => by omega, by omega, h2.msg⟩
theorem JI.took {N : Nat} {o : Nat → Ov} {Q : List (Nat × Ms)} {a b : Nat} {x : Ms} (k : JI N o ((a, x) :: Q)) (ha : a < N) (hb : b < N) (hab : a ≠ b) (hm : MOk N x.mq) {ds : List Int} (hr : ∀ x ∈ ds, 0 ≤ x ∧ x < 4294967296) :
    TkS (o b) (oTake (o b) ((a : Int) + 1) x.mq ds).1 ((a : Int) + 1) x.mq (oTake (o b) ((a : Int) + 1) x.mq ds).2.1 := by
  have hN := k.inv.net.le
  exact oTake_s (k.hi hb) (by omega) (by rw [k.self hb]; omega) (k.am hb) (k.far hb) hm.kind hr
theorem JI.take {N : Nat} {o : Nat → Ov} {Q : List (Nat × Ms)} {a b : Nat} {x : Ms} (k : JI N o ((a, x) :: Q)) (ha : a < N) (hb : b < N) (hab : a ≠ b) (hx : x.who = (b : Int) + 1) (hm : MOk N x.mq) {ds : List Int} (hr : ∀ x ∈ ds, 0 ≤ x ∧ x < 4294967296) :
    JI N (upd o b (oTake (o b) ((a : Int) + 1) x.mq ds).1) (Q ++ from_ b (oTake (o b) ((a : Int) + 1) x.mq ds).2.1) := by
  have T := k.took ha hb hab hm hr
  obtain ⟨t1, t2⟩ := k.inv.take ha hb hab (m := x.mq) (t := qw Q a b) (qw_head hx) hr
  have h1 : ∀ y ∈ (oTake (o b) ((a : Int) + 1) x.mq ds).2.1, 1 ≤ y.who := fun y hy => (t2 y hy).who.1
  rw [qw_pop hx] at t1
  refine ⟨by rw [qw_push Q b h1]; exact t1, fun i hi => ?_, fun i hi y hy => ?_, fun z hz => ?_⟩
  · by_cases e : i = b
    · subst e; rw [upd_same, T.cfg]; exact k.cfg i hi
    · rw [upd_other _ _ e]; exact k.cfg i hi
  · by_cases e : i = b
    · subst e
      rw [upd_same] at hy
      rcases T.asked y hy with h | ⟨z, hz, h2, h3⟩
      · obtain ⟨z, hz, h2⟩ := k.asked i hi y h
        rcases List.mem_cons.1 hz with rfl | hz
        · rcases h2 with ⟨e1, -, -⟩ | ⟨e1, -, e3⟩
          · exact absurd e1 hab
          · refine absurd hy ?_
            rw [← e1]
            refine T.drop ?_
            simp only [isAns, Bool.or_eq_true, beq_iff_eq] at e3
            exact e3
        · exact ⟨z, List.mem_append.2 (.inl hz), h2⟩
      · exact ⟨(i, z), List.mem_append.2 (.inr (mem_from hz)), .inl ⟨rfl, h3, h2⟩⟩
    · rw [upd_other _ _ e] at hy
      obtain ⟨z, hz, h2⟩ := k.asked i hi y hy
      rcases List.mem_cons.1 hz with rfl | hz
      · rcases h2 with ⟨e1, e2, e3⟩ | ⟨-, e2, -⟩
        · simp only at e1 e2 e3
          simp only [isAsk, Bool.or_eq_true, beq_iff_eq] at e3
          obtain ⟨z, h4, h5, -⟩ := T.answer (e3.elim (fun h => .inr h) (fun h => .inl h))
          have hz : z ∈ (oTake (o b) ((a : Int) + 1) x.mq ds).2.1.filter isAns := by rw [h4]; exact List.mem_singleton.2 rfl
          obtain ⟨hz1, hz2⟩ := List.mem_filter.1 hz
          exact ⟨(b, z), List.mem_append.2 (.inr (mem_from hz1)), .inr ⟨by simp only; omega, by simp only; rw [h5, e1], hz2⟩⟩
        · simp only at e2
          exact absurd (show i = b by omega) e
      · exact ⟨z, List.mem_append.2 (.inl hz), h2⟩
  · rcases List.mem_append.1 hz with h | h
    · exact k.who z (List.mem_cons_of_mem _ h)
    · obtain ⟨u, hu, rfl⟩ := List.mem_map.1 h
      exact ⟨hb, t2 u hu⟩
def asksQ (Q : List (Nat × Ms)) (i : Nat) (y : Int) : List (Nat × Ms) := Q.filter (fun x => x.1 == i && (x.2.who == y && isAsk x.2))
def anssQ (Q : List (Nat × Ms)) (i : Nat) (y : Int) : List (Nat × Ms) := Q.filter (fun x => ((x.1 : Int) + 1 == y) && (x.2.who == (i : Int) + 1 && isAns x.2))
theorem asks_app (Q R : List (Nat × Ms)) (i : Nat) (y : Int) : asksQ (Q ++ R) i y = asksQ Q i y ++ asksQ R i y := List.filter_append ..
theorem anss_app (Q R : List (Nat × Ms)) (i : Nat) (y : Int) : anssQ (Q ++ R) i y = anssQ Q i y ++ anssQ R i y := List.filter_append ..
theorem asks_none {Q : List (Nat × Ms)} {i : Nat} {y : Int} (h : ∀ x ∈ Q, x.1 = i → x.2.who = y → isAsk x.2 = true → False) : asksQ Q i y = [] := by
  refine List.filter_eq_nil_iff.2 (fun x hx => ?_)
  simp only [Bool.and_eq_true, beq_iff_eq]
  exact fun e => h x hx e.1 e.2.1 e.2.2
theorem anss_none {Q : List (Nat × Ms)} {i : Nat} {y : Int} (h : ∀ x ∈ Q, (x.1 : Int) + 1 = y → x.2.who = (i : Int) + 1 → isAns x.2 = true → False) : anssQ Q i y = [] := by
  refine List.filter_eq_nil_iff.2 (fun x hx => ?_)
  simp only [Bool.and_eq_true, beq_iff_eq]
  exact fun e => h x hx e.1 e.2.1 e.2.2
/-- a node without an active one waits for an answer that will be a Yes -/
def AW (o : Nat → Ov) (Q : List (Nat × Ms)) (i : Nat) : Prop :=
  (o i).h.v.act = [] ∧ ∃ y ∈ (o i).h.asked, (∃ x, asksQ Q i y = [x] ∧ (x.2.kind = 1 ∨ x.2.high = true) ∧ anssQ Q i y = []) ∨ (asksQ Q i y = [] ∧ ∃ x, anssQ Q i y = [x] ∧ x.2.kind = 4)
theorem AW.not_nil {o : Nat → Ov} {i : Nat} (h : AW o [] i) : False := by
  obtain ⟨-, y, -, ⟨x, h, -, -⟩ | ⟨-, x, h, -⟩⟩ := h
  · cases h
  · cases h
theorem AW.tick {N : Nat} {o : Nat → Ov} {Q : List (Nat × Ms)} {i r : Nat} {ds : List Int} (h : AW o Q i) (k : JI N o Q) (hr : r < N) (hir : i ≠ r) : AW (upd o r (oTick (o r) ds).1) (Q ++ from_ r (oTick (o r) ds).2.1) i := by
  have T := oTick_s (k.hi hr) (k.far hr) ds
  obtain ⟨h1, y, hy, h2⟩ := h
  have e1 : asksQ (from_ r (oTick (o r) ds).2.1) i y = [] := asks_none (fun x hx e _ _ => by
    obtain ⟨z, -, rfl⟩ := List.mem_map.1 hx
    exact hir e.symm)
  have e2 : anssQ (from_ r (oTick (o r) ds).2.1) i y = [] := anss_none (fun x hx _ _ h => by
    obtain ⟨z, hz, rfl⟩ := List.mem_map.1 hx
    have := T.ans z hz
    simp only at h
    rw [this] at h
    cases h)
  unfold AW
  rw [upd_other _ _ hir]
  refine ⟨h1, y, hy, ?_⟩
  rw [asks_app, anss_app, e1, e2, List.append_nil, List.append_nil]
  exact h2
theorem AW.start {N : Nat} {o : Nat → Ov} {Q : List (Nat × Ms)} {i : Nat} {ds : List Int} (k : JI N o Q) (hi : i < N) (hr : ∀ x ∈ ds, 0 ≤ x ∧ x < 4294967296) (h0 : (o i).h.v.act = []) (h1 : (o i).h.asked = []) (hQ : ∀ x ∈ Q, x.1 < i ∧ isAns x.2 = false) :
    AW (upd o i (oTick (o i) ds).1) (Q ++ from_ i (oTick (o i) ds).2.1) i := by
  have T := oTick_s (k.hi hi) (k.far hi) ds
  have hN := k.inv.net.le
  have hself := k.self hi
  have hsd : (o i).c.seeds = kept (fun n => n == (i : Int) + 1) [1, 2] := by rw [k.cfg i hi]; rfl
  have hgo := oFill_go (ds_ := ds) (k.inv.ok i hi) (by rw [k.am hi]; decide) hr h0 h1 (fun x hx => ?_) (by
      rw [hsd]
      intro e
      have h2 := List.filter_eq_nil_iff.1 e
      have a1 := h2 1 (by simp)
      have a2 := h2 2 (by simp)
      simp at a1 a2
      omega) (fun x hx => ?_)
  · obtain ⟨x, e1, e2, e3⟩ := oTick_start (k.hi hi) (k.far hi) h0 hgo
    have hx1 : x ∈ (oTick (o i) ds).2.1.filter isAsk := by rw [e1]; exact List.mem_singleton.2 rfl
    unfold AW
    rw [upd_same]
    refine ⟨by rw [T.v]; exact h0, x.who, e2, .inl ⟨(i, x), ?_, e3, ?_⟩⟩
    · rw [asks_app, asks_none (fun z hz e _ _ => by have := (hQ z hz).1; omega), List.nil_append]
      unfold asksQ from_
      rw [List.filter_map]
      have : (oTick (o i) ds).2.1.filter ((fun z : Nat × Ms => z.1 == i && (z.2.who == x.who && isAsk z.2)) ∘ fun z => (i, z)) = [x] := by
        have e4 : (oTick (o i) ds).2.1.filter ((fun z : Nat × Ms => z.1 == i && (z.2.who == x.who && isAsk z.2)) ∘ fun z => (i, z)) = ((oTick (o i) ds).2.1.filter isAsk).filter (fun z => z.who == x.who) := by
          rw [List.filter_filter]
          congr 1
          funext z
          simp
        rw [e4, e1, List.filter_cons_of_pos (by simp)]
        rfl
      rw [this]
      rfl
    · rw [anss_app, anss_none (fun z hz _ _ h => by rw [(hQ z hz).2] at h; cases h), anss_none (fun z hz _ _ h => by
        obtain ⟨u, hu, rfl⟩ := List.mem_map.1 hz
        have := T.ans u hu
        simp only at h
        rw [this] at h
        cases h)]
      rfl
  · have := k.inv.pas i hi x hx
    exact ⟨this.1, by omega, fun e => (k.inv.net.hi i hi).sane.pas (e ▸ hx)⟩
  · rw [hsd] at hx
    obtain ⟨h2, h3⟩ := List.mem_filter.1 hx
    simp only [List.mem_cons, List.not_mem_nil, or_false] at h2
    simp at h3
    exact ⟨by omega, by omega, by rw [hself]; omega⟩
theorem AW.take {N : Nat} {o : Nat → Ov} {Q : List (Nat × Ms)} {a b i : Nat} {x : Ms} {ds : List Int} (h : AW o ((a, x) :: Q) i) (k : JI N o ((a, x) :: Q)) (hi : i < N) (ha : a < N) (hb : b < N) (hab : a ≠ b) (hx : x.who = (b : Int) + 1) (hm : MOk N x.mq) (hr : ∀ x ∈ ds, 0 ≤ x ∧ x < 4294967296) :
    AW (upd o b (oTake (o b) ((a : Int) + 1) x.mq ds).1) (Q ++ from_ b (oTake (o b) ((a : Int) + 1) x.mq ds).2.1) i ∨ (i = b ∧ (oTake (o b) ((a : Int) + 1) x.mq ds).1.h.v.act ≠ []) := by
  have T := k.took ha hb hab hm hr
  obtain ⟨outs, ho⟩ : ∃ u, u = (oTake (o b) ((a : Int) + 1) x.mq ds).2.1 := ⟨_, rfl⟩
  obtain ⟨o', ho'⟩ : ∃ u, u = (oTake (o b) ((a : Int) + 1) x.mq ds).1 := ⟨_, rfl⟩
  rw [← ho, ← ho'] at T ⊢
  clear ho ho'
  obtain ⟨h1, y, hy, h2⟩ := h
  by_cases e : i = b
  · subst e
    by_cases h0 : o'.h.v.act = []
    · left
      have ysf : y ≠ (i : Int) + 1 := fun e => (k.hi hi).self (by rw [k.self hi, ← e]; exact hy)
      have hA : asksQ ((a, x) :: Q) i y = asksQ Q i y := List.filter_cons_of_neg (by simp [hab])
      have n1 : asksQ (from_ i outs) i y = [] := asks_none (fun z hz _ e2 e3 => by
        obtain ⟨u, hu, rfl⟩ := List.mem_map.1 hz
        have := T.askTo u hu e3
        simp only at e2
        rw [e2] at this
        exact this hy)
      have n2 : anssQ (from_ i outs) i y = [] := anss_none (fun z hz e1 _ _ => by
        obtain ⟨u, hu, rfl⟩ := List.mem_map.1 hz
        exact ysf e1.symm)
      by_cases hc : (a : Int) + 1 = y ∧ isAns x = true
      · exfalso
        have hB : anssQ ((a, x) :: Q) i y = (a, x) :: anssQ Q i y := List.filter_cons_of_pos (by simp [hc.1, hc.2, hx])
        rw [hB] at h2
        rcases h2 with ⟨z, -, -, h3⟩ | ⟨-, z, h3, h4⟩
        · cases h3
        · injection h3 with h5 h6
          subst h5
          exact T.got h1 h4 (by rw [hc.1]; exact hy) h0
      · have hB : anssQ ((a, x) :: Q) i y = anssQ Q i y := List.filter_cons_of_neg (by
          simp only [Bool.and_eq_true, beq_iff_eq]
          exact fun h => hc ⟨h.1, h.2.2⟩)
        unfold AW
        rw [upd_same]
        refine ⟨h0, y, ?_, ?_⟩
        · rcases T.keep h1 y hy with h | ⟨h, h3⟩ | h
          · exact h
          · exact absurd ⟨h.symm, by have h4 : x.kind = 4 ∨ x.kind = 5 := h3; simpa [isAns] using h4⟩ hc
          · exact absurd h0 h
        · rw [asks_app, anss_app, n1, n2, List.append_nil, List.append_nil, ← hA, ← hB]
          exact h2
    · exact .inr ⟨rfl, h0⟩
  · left
    unfold AW
    rw [upd_other _ _ e]
    refine ⟨h1, y, hy, ?_⟩
    have n1 : asksQ (from_ b outs) i y = [] := asks_none (fun z hz e1 _ _ => by
      obtain ⟨u, hu, rfl⟩ := List.mem_map.1 hz
      exact e e1.symm)
    have hB : anssQ ((a, x) :: Q) i y = anssQ Q i y := List.filter_cons_of_neg (by
      simp only [Bool.and_eq_true, beq_iff_eq]
      exact fun h => e (by have := h.2.1; omega))
    by_cases hc : a = i ∧ x.who = y ∧ isAsk x = true
    · obtain ⟨rfl, c2, c3⟩ := hc
      have hA : asksQ ((a, x) :: Q) a y = (a, x) :: asksQ Q a y := List.filter_cons_of_pos (by simp [c2, c3])
      rw [hA, hB] at h2
      rcases h2 with ⟨z, h3, h4, h5⟩ | ⟨h3, -⟩
      · injection h3 with h6 h7
        subst h6
        have c5 : x.kind = 3 ∨ x.kind = 1 := by simpa [isAsk] using c3
        have c4 : x.mq.kind = 3 ∨ x.mq.kind = 1 := c5
        obtain ⟨z, e1, e2, e3⟩ := T.answer c4.symm
        refine .inr ⟨by rw [asks_app, h7, n1]; rfl, (b, z), ?_, e3 h4⟩
        rw [anss_app, h5, List.nil_append]
        unfold anssQ from_
        rw [List.filter_map]
        have e5 : outs.filter ((fun u : Nat × Ms => ((u.1 : Int) + 1 == y) && (u.2.who == (a : Int) + 1 && isAns u.2)) ∘ fun u => (b, u)) = [z] := by
          have e4 : outs.filter ((fun u : Nat × Ms => ((u.1 : Int) + 1 == y) && (u.2.who == (a : Int) + 1 && isAns u.2)) ∘ fun u => (b, u)) = (outs.filter isAns).filter (fun u => u.who == (a : Int) + 1) := by
            rw [List.filter_filter]
            congr 1
            funext u
            have : ((b : Int) + 1 == y) = true := by rw [← c2, hx]; simp
            simp [this]
          rw [e4, e1, List.filter_cons_of_pos (by simp [e2])]
          rfl
        rw [e5]
        rfl
      · cases h3
    · have hA : asksQ ((a, x) :: Q) i y = asksQ Q i y := List.filter_cons_of_neg (by
        simp only [Bool.and_eq_true, beq_iff_eq]
        exact hc)
      have n2 : anssQ (from_ b outs) i y = [] := anss_none (fun z hz e1 e2 e3 => by
        obtain ⟨u, hu, rfl⟩ := List.mem_map.1 hz
        obtain ⟨f1, f2⟩ := T.ansTo u hu e3
        simp only at e1 e2
        refine hc ⟨by omega, by omega, ?_⟩
        have f3 : x.kind = 1 ∨ x.kind = 3 := f2
        rcases f3 with h | h <;> simp [isAsk, h])
      rw [asks_app, anss_app, n1, n2, List.append_nil, List.append_nil, ← hA, ← hB]
      exact h2
/-- while they tick: i of them have ticked -/
structure Tp (N i : Nat) (o : Nat → Ov) (Q : List (Nat × Ms)) (had : Nat → Bool) : Prop where
  ji : JI N o Q
  phi : PhiQ Q ≤ 25 * i
  from_ : ∀ x ∈ Q, x.1 < i ∧ isAns x.2 = false
  asked : ∀ j, i ≤ j → j < N → (o j).h.asked = []
  had : ∀ j, j < i → had j = true ∨ AW o Q j
theorem Tp.zero {N : Nat} {o : Nat → Ov} (k : JI N o []) (had : Nat → Bool) : Tp N 0 o [] had where
  ji := k
  phi := Nat.zero_le _
  from_ := fun x hx => by cases hx
  asked := fun j _ hj => by
    refine List.eq_nil_iff_forall_not_mem.2 (fun y hy => ?_)
    obtain ⟨x, hx, -⟩ := k.asked j hj y hy
    cases hx
  had := fun j hj => by omega
theorem Tp.step {N i : Nat} {o : Nat → Ov} {Q : List (Nat × Ms)} {had : Nat → Bool} (k : Tp N i o Q had) (hi : i < N) {ds : List Int} (hr : ∀ x ∈ ds, 0 ≤ x ∧ x < 4294967296) {c : Bool} (hc : (o i).h.v.act ≠ [] → c = true) :
    Tp N (i + 1) (upd o i (oTick (o i) ds).1) (Q ++ Go.Proofs.Ytelepohdfcjnfaa.from_ i (oTick (o i) ds).2.1) (upd had i c) := by
  have T := oTick_s (k.ji.hi hi) (k.ji.far hi) ds
  refine ⟨k.ji.tick hi hr, ?_, fun x hx => ?_, fun j h1 h2 => ?_, fun j hj => ?_⟩
  · rw [PhiQ_app, PhiQ_from]
    have h1 := k.phi
    have h2 := T.phi
    omega
  · rcases List.mem_append.1 hx with h | h
    · exact ⟨Nat.lt_succ_of_lt (k.from_ x h).1, (k.from_ x h).2⟩
    · obtain ⟨z, hz, rfl⟩ := List.mem_map.1 h
      exact ⟨Nat.lt_succ_self _, T.ans z hz⟩
  · rw [upd_other _ _ (by omega)]
    exact k.asked j (by omega) h2
  · by_cases e : j = i
    · subst e
      rw [upd_same]
      by_cases h0 : (o j).h.v.act = []
      · exact .inr (AW.start k.ji hi hr h0 (k.asked j (Nat.le_refl _) hi) k.from_)
      · exact .inl (hc h0)
    · rw [upd_other _ _ e]
      rcases k.had j (by omega) with h | h
      · exact .inl h
      · exact .inr (h.tick k.ji hi e)
/-- while they take: k letters are taken -/
structure Kp (N k : Nat) (o : Nat → Ov) (Q : List (Nat × Ms)) (had : Nat → Bool) : Prop where
  ji : JI N o Q
  phi : k + PhiQ Q ≤ 25 * N
  had : ∀ j, j < N → had j = true ∨ AW o Q j
theorem Tp.kp {N : Nat} {o : Nat → Ov} {Q : List (Nat × Ms)} {had : Nat → Bool} (k : Tp N N o Q had) : Kp N 0 o Q had := ⟨k.ji, by have := k.phi; omega, k.had⟩
theorem Kp.step {N k : Nat} {o : Nat → Ov} {Q : List (Nat × Ms)} {had : Nat → Bool} {a b : Nat} {x : Ms} (h : Kp N k o ((a, x) :: Q) had) (ha : a < N) (hb : b < N) (hab : a ≠ b) (hx : x.who = (b : Int) + 1) (hm : MOk N x.mq) {ds : List Int} (hr : ∀ x ∈ ds, 0 ≤ x ∧ x < 4294967296) {c : Bool}
    (hc : had b = true ∨ (oTake (o b) ((a : Int) + 1) x.mq ds).1.h.v.act ≠ [] → c = true) :
    Kp N (k + 1) (upd o b (oTake (o b) ((a : Int) + 1) x.mq ds).1) (Q ++ from_ b (oTake (o b) ((a : Int) + 1) x.mq ds).2.1) (upd had b c) := by
  have T := h.ji.took ha hb hab hm hr
  refine ⟨h.ji.take ha hb hab hx hm hr, ?_, fun j hj => ?_⟩
  · rw [PhiQ_app, PhiQ_from]
    have h1 := h.phi
    rw [PhiQ_cons] at h1
    have h2 : Phi (oTake (o b) ((a : Int) + 1) x.mq ds).2.1 < x.phi := T.phi
    simp only at h1
    omega
  · by_cases e : j = b
    · subst e
      rw [upd_same]
      rcases h.had j hj with h1 | h1
      · exact .inl (hc (.inl h1))
      · rcases h1.take h.ji hj ha hb hab hx hm hr with h2 | ⟨-, h2⟩
        · exact .inr h2
        · exact .inl (hc (.inr h2))
    · rw [upd_other _ _ e]
      rcases h.had j hj with h1 | h1
      · exact .inl h1
      · rcases h1.take h.ji hj ha hb hab hx hm hr with h2 | ⟨h2, -⟩
        · exact .inr h2
        · exact absurd h2 e
theorem Kp.len {N k : Nat} {o : Nat → Ov} {Q : List (Nat × Ms)} {had : Nat → Bool} (h : Kp N k o Q had) : k + Q.length ≤ 25 * N := by
  have h1 := h.phi
  have h2 := PhiQ_len Q
  omega
theorem Kp.done {N k : Nat} {o : Nat → Ov} {had : Nat → Bool} (h : Kp N k o [] had) : ∀ j, j < N → had j = true := fun j hj => (h.had j hj).resolve_right AW.not_nil
theorem JI.rest {N : Nat} {o : Nat → Ov} (k : JI N o []) {i j : Nat} (hi : i < N) (hj : j < N) : ((j : Int) + 1 ∈ (o i).h.v.act ↔ (i : Int) + 1 ∈ (o j).h.v.act) :=
  ⟨fun h => k.inv.rest hi hj rfl rfl h, fun h => k.inv.rest hj hi rfl rfl h⟩
theorem JI.start {N : Nat} (hN : 2 ≤ N) (hN2 : N ≤ 60000) : JI N (fun i => oNew ((i : Int) + 1) (cfg13 3 6)) [] := by
  refine ⟨OInv.start hN2 (by decide) (fun i _ => ⟨oNew_ok _ _ (by decide), rfl, fun x hx => ?_⟩) (by decide) (by decide), fun i _ => rfl, fun i _ y hy => (by cases hy), fun x hx => (by cases hx)⟩
  have hx1 : x ∈ kept (fun n => n == (i : Int) + 1) [1, 2] := hx
  have hx2 : x ∈ ([1, 2] : List Int) := (List.mem_filter.1 hx1).1
  simp only [List.mem_cons, List.not_mem_nil, or_false] at hx2
  rcases hx2 with rfl | rfl <;> exact ⟨by omega, by omega⟩
end Go.Proofs.Ytelepohdfcjnfaa
