/-
  WalkEnds: the plain part.
-/
import Derived.Test.YtdpnkikaciigoaaWalkLaw
import Derived.Test.YtdpnkikaciigoaaViewEv
namespace Go.Proofs.Ytdpnkikaciigoaa
open Go.RowKit Go.Proofs

/-- what is asked of a step -/
def StepOk (v : Vw) (a b n : Int) (e : Bool) (nx : Int) (kn : Bool) : Prop := (e = true → nx = 0 ∧ kn = false) ∧ (e = false → nx ∈ v.act ∧ nx ≠ a ∧ nx ≠ b ∧ 1 ≤ n)
theorem on_ok {v : Vw} {a b n : Int} {ds : List Int} (hr : ∀ x ∈ ds, 0 ≤ x ∧ x < 4294967296) (hn : ¬ n < 1) (c : Bool) :
    StepOk v a b n (!(onV v a b ds).2.1) (onV v a b ds).1 ((onV v a b ds).2.1 && c) := by
  by_cases hl : but v.act [a, b] = []
  · have e : onV v a b ds = (0, false, ds) := by unfold onV oneV; rw [if_pos hl]
    rw [e]
    exact ⟨fun _ => ⟨rfl, rfl⟩, fun h => by cases h⟩
  · have hm := oneV_mem (l := but v.act [a, b]) hr hl
    have e2 : (onV v a b ds).2.1 = true := hm.2
    rw [e2]
    refine ⟨fun h => (by cases h), fun _ => ?_⟩
    have h1 := (List.mem_filter.1 (show (onV v a b ds).1 ∈ but v.act [a, b] from hm.1))
    refine ⟨h1.1, ?_, ?_, by omega⟩
    · intro e
      have := h1.2
      rw [e] at this
      simp [has] at this
    · intro e
      have := h1.2
      rw [e] at this
      simp [has] at this
theorem join_ok {v : Vw} {a b n k : Int} {ds : List Int} (hr : ∀ x ∈ ds, 0 ≤ x ∧ x < 4294967296) : StepOk v a b n (wJoin v a b n k ds).1 (wJoin v a b n k ds).2.1 (wJoin v a b n k ds).2.2.1 := by
  unfold wJoin
  split
  · exact ⟨fun _ => ⟨rfl, rfl⟩, fun h => by cases h⟩
  · rename_i h
    exact on_ok hr (fun h1 => h (.inl h1)) _
theorem mix_ok {v : Vw} {a b n : Int} {ds : List Int} (hr : ∀ x ∈ ds, 0 ≤ x ∧ x < 4294967296) : StepOk v a b n (wMix v a b n ds).1 (wMix v a b n ds).2.1 (wMix v a b n ds).2.2.1 := by
  unfold wMix
  split
  · exact ⟨fun _ => ⟨rfl, rfl⟩, fun h => by cases h⟩
  · rename_i h
    have := on_ok (v := v) (a := a) (b := b) hr h false
    rw [Bool.and_false] at this
    exact this

/-- a node's view, made of its links -/
structure WeV (v : Vw) (j : Nat) : Prop where
  good : v.Good
  sane : v.Sane
  self : v.self = 1 + (j : Int)
  six : ∀ x ∈ v.act, x ≤ 6
theorem WeV.new (j : Nat) : WeV ⟨1 + (j : Int), [], 8, [], 8⟩ j :=
  ⟨⟨Good.nil (by simp only; omega) (by simp only; omega), Good.nil (by simp only; omega) (by simp only; omega)⟩, ⟨by simp, by simp, by simp⟩, rfl, by simp⟩
theorem WeV.join {v : Vw} {j : Nat} (h : WeV v j) {x : Int} (hx : x ≤ 6) : WeV (vJoin v x) j := by
  refine ⟨vJoin_good h.good x, vJoin_sane h.good h.sane x, ?_, ?_⟩
  · unfold vJoin; split <;> exact h.self
  · unfold vJoin; split
    · intro z hz
      rcases sAdd_sub hz with e | e
      · rw [e]; exact hx
      · exact h.six z e
    · exact h.six
theorem WeV.next {v : Vw} {j : Nat} (h : WeV v j) {x : Int} (hx : x ∈ v.act) : ∃ i : Nat, x = 1 + (i : Int) ∧ i < 6 ∧ i ≠ j := by
  have h1 := h.good.act.node x hx
  have h2 := h.six x hx
  refine ⟨(x - 1).toNat, by omega, by omega, ?_⟩
  intro e
  apply h.sane.act
  rw [h.self, ← e]
  rwa [show (1 : Int) + ((x - 1).toNat : Int) = x by omega]

/-- the links of six nodes -/
def LinksAt (w : World) (q : Nat) : Prop := ∃ l0 l1 l2 l3 l4 l5 : Int, w.heap[q]? = some (.cells #[.int .u8 l0, .int .u8 l1, .int .u8 l2, .int .u8 l3, .int .u8 l4, .int .u8 l5] 71 (0, 0)) ∧ (0 ≤ l0 ∧ l0 ≤ 255) ∧ (0 ≤ l1 ∧ l1 ≤ 255) ∧ (0 ≤ l2 ∧ l2 ≤ 255) ∧ (0 ≤ l3 ∧ l3 ≤ 255) ∧ (0 ≤ l4 ∧ l4 ≤ 255) ∧ (0 ≤ l5 ∧ l5 ≤ 255)
theorem LinksAt.keep {S : Nat → Prop} {w w' : World} {q : Nat} (h : LinksAt w q) (f : Fr S w w') (hS : ¬ S q) : LinksAt w' q := by
  obtain ⟨l0, l1, l2, l3, l4, l5, h, r⟩ := h
  exact ⟨l0, l1, l2, l3, l4, l5, blk_keep f h hS, r⟩
theorem LinksAt.at_ {w : World} {q : Nat} (h : LinksAt w q) {j : Nat} (hj : j < 6) : ∃ x : Int, w.cell? ⟨q, j, none⟩ = some (.int .u8 x) ∧ 0 ≤ x ∧ x ≤ 255 := by
  obtain ⟨l0, l1, l2, l3, l4, l5, h, r0, r1, r2, r3, r4, r5⟩ := h
  have hb := Bx.of_block h
  match j, hj with
  | 0, _ => exact ⟨l0, hb 0 _ rfl, r0⟩
  | 1, _ => exact ⟨l1, hb 1 _ rfl, r1⟩
  | 2, _ => exact ⟨l2, hb 2 _ rfl, r2⟩
  | 3, _ => exact ⟨l3, hb 3 _ rfl, r3⟩
  | 4, _ => exact ⟨l4, hb 4 _ rfl, r4⟩
  | 5, _ => exact ⟨l5, hb 5 _ rfl, r5⟩
theorem LinksAt.not_draw {w : World} {q : Nat} {p : Value} {ds : List Int} (h : LinksAt w q) (hd : DrawV w p ds) : ¬ pblk p q := by
  obtain ⟨l0, l1, l2, l3, l4, l5, h, -⟩ := h
  rcases hd with ⟨rfl, rfl⟩ | ⟨d, rfl, a, cap, h1, _⟩
  · intro h; unfold pblk at h; cases h
  · intro hp
    unfold pblk at hp
    cases hp
    rw [Lib.cell_of_heap h] at h1
    simp at h1
theorem tmod_small {x m : Int} (h0 : 0 ≤ x) (hm : 0 < m) : ∃ j : Nat, x.tmod m = (j : Int) ∧ (j : Int) < m := by
  have h1 := Int.emod_nonneg x (show m ≠ 0 by omega)
  have h2 := Int.emod_lt_of_pos x hm
  refine ⟨(x % m).toNat, ?_, by omega⟩
  rw [Int.tmod_eq_emod_of_nonneg h0]
  omega
end Go.Proofs.Ytdpnkikaciigoaa
