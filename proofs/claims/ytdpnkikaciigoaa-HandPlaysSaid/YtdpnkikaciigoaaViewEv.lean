/-
  Views while nodes join and are evicted.
-/
import Derived.Test.YtdpnkikaciigoaaViewSane
namespace Go.Proofs.Ytdpnkikaciigoaa
open Go.RowKit Go.Proofs

theorem tmod20 (x : Int) (h0 : 0 ≤ x) : x.tmod 20 = x % 20 := Int.tmod_eq_emod_of_nonneg h0
theorem vwNew_id (s a p : Int) (ha : 0 ≤ a ∧ a ≤ 64) (hp : 0 ≤ p ∧ p ≤ 64) : vwNew s a p = ⟨s, [], a, [], p⟩ := by
  unfold vwNew
  rw [show min (max a 0) 64 = a by omega, show min (max p 0) 64 = p by omega]

/-- what stays true of the view while nodes join -/
structure EvA (v : Vw) (a p : Int) : Prop where
  good : v.Good
  sane : v.Sane
  self : v.self = 300
  am : v.am = a
  pm : v.pm = p
  pas : v.pas = []
theorem EvA.join {v : Vw} {a p x : Int} (h : EvA v a p) (hx : 1 ≤ x ∧ x ≤ 256) : EvA (vJoin v x) a p ∧ (vJoinOk v x = false → ¬ (v.act.length : Int) < a) := by
  have hg := vJoin_good h.good x
  have hs := vJoin_sane h.good h.sane x
  have hne : (x == v.self) = false := by rw [h.self]; simp; omega
  refine ⟨⟨hg, hs, ?_, ?_, ?_, ?_⟩, ?_⟩
  · unfold vJoin; split <;> exact h.self
  · unfold vJoin; split <;> exact h.am
  · unfold vJoin; split <;> exact h.pm
  · unfold vJoin; split
    · simp only; rw [h.pas]; rfl
    · exact h.pas
  · intro hk
    unfold vJoinOk at hk
    rw [hne] at hk
    simp only [Bool.not_false, Bool.and_true] at hk
    unfold sAddOk at hk
    rw [decide_eq_true hx.1, decide_eq_true (show x ≤ 65535 by omega), h.am] at hk
    simp only [Bool.and_self, Bool.true_and, Bool.or_eq_false_iff, decide_eq_false_iff_not] at hk
    exact hk.2
/-- what stays true of it while nodes are evicted: so many were -/
structure EvB (v : Vw) (a p : Int) (n i : Nat) : Prop where
  good : v.Good
  sane : v.Sane
  am : v.am = a
  pm : v.pm = p
  act : v.act.length + i = n
  pas : (v.pas.length : Int) = min (i : Int) p
theorem EvB.step {v : Vw} {a p : Int} {n i : Nat} {ds : List Int} (h : EvB v a p n i) (hd : ∀ x ∈ ds, 0 ≤ x ∧ x < 4294967296) (hi : i < n) : EvB (vEvict v ds).1 a p n (i + 1) ∧ Evicted v ds := by
  have hne : v.act ≠ [] := by
    intro e
    have := h.act
    rw [e] at this
    simp at this
    omega
  have he := vEvict_facts h.good h.sane hd hne
  have h0 := h.good.pas.least
  refine ⟨⟨vEvict_good h.good ds, vEvict_sane h.good h.sane ds, he.am.trans h.am, he.pm.trans h.pm, by have := he.len; have := h.act; omega, ?_⟩, he⟩
  rw [he.plen, h.pas, h.pm]
  rw [h.pm] at h0
  push_cast
  omega

/-- a draw and a view's variable have nothing in common -/
theorem DrawV.keepV {w w' : World} {p : Value} {ds : List Int} {q : Nat} {v : Vw} {y : VwP} {T : TypeId} {fz : Nat × Nat} (h : DrawV w p ds) (f : Fr (fun k => k = q) w w') (hb : w.heap[q]? = some (.cells (v.arr y) T fz)) : DrawV w' p ds ∧ ¬ pblk p q := by
  rcases h with ⟨rfl, rfl⟩ | ⟨d, rfl, a, cap, h1, h2, h3, h4, h5⟩
  · exact ⟨.nil w', fun h => by unfold pblk at h; cases h⟩
  · have hdq : d ≠ q := by
      intro e
      subst e
      rw [Lib.cell_of_heap hb] at h1
      simp at h1
    refine ⟨.inr ⟨d, rfl, a, cap, f.cell h1 hdq, (f.frozen h1 hdq).trans h2, ⟨h3.le, h3.max, fun j u hj => ?_⟩, h4, h5⟩, fun h => by unfold pblk at h; cases h; exact hdq rfl⟩
    obtain ⟨b, o, e, hc⟩ := h3.cell j u hj
    refine ⟨b, o, e, f.cell hc ?_⟩
    intro e2
    simp only at e2
    subst e2
    obtain ⟨x, _, rfl⟩ := List.mem_map.1 (List.mem_of_getElem? hj)
    rw [Lib.cell_of_heap hb] at hc
    generalize o + j = i at hc
    match i, hc with
    | 0, hc => simp at hc
    | 1, hc => simp at hc
    | 2, hc => simp at hc
    | 3, hc => simp at hc
    | 4, hc => simp at hc
    | i + 5, hc => simp at hc

theorem VarV.drawn {W w w' : World} {q : Nat} {v : Vw} {y : VwP} {p : Value} {ds : List Int} (h : VarV W q w v y) (hd : DrawV w p ds) (hs : VwSep p v y) (f : Fr (pblk p) w w') (hp : ∀ k, pblk p k → W.heap.size ≤ k) : VarV W q w' v y :=
  ⟨blk_keep f h.blk (hd.keepV (Fr.refl _ _) h.blk).2, h.at_.drawn hs f, h.apart, Fr.trans h.gr f (fun k hk => .inr (hp k hk))⟩
end Go.Proofs.Ytdpnkikaciigoaa
