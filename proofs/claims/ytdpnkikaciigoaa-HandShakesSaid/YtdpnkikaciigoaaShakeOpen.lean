/-
  The shake among the arguments of a statement.
-/
import Derived.Test.YtdpnkikaciigoaaHandShakes
import Derived.Test.YtdpnkikaciigoaaFlat
import Derived.WalkArith
import Derived.SizedLaws
namespace Go.Proofs.Ytdpnkikaciigoaa
open Go.RowKit Go.Proofs Go.ChangeShapes Go.WideShapes

theorem sized_field {H : Type} {P : Program} {ts : List TypeId} {ds : List (DataW H)} (h : (DataW.weightsEach P ts ds).all (· ≤ reachBytes) = true) {j i : Nat} {t t2 e : TypeId} {fs : Array Field} {parts elems spare : List (DataW H)} (ht : ts[j]? = some t) (hd : ds[j]? = some (.agg parts))
    (hu : P.underlying t = some (.struct fs)) (hi : (fs.toList.map (·.type))[i]? = some t2) (hp : parts[i]? = some (.slice elems spare)) (hu2 : P.underlying t2 = some (.slice e)) : (elems.length + spare.length) * P.bytesOf e ≤ reachBytes := by
  have h1 : (elems.length + spare.length) * P.bytesOf e ∈ DataW.weightsEach P (fs.toList.map (·.type)) parts := DataW.weights_mem_each hi hp _ (by simp [DataW.weights, hu2])
  have := List.all_eq_true.1 h _ (DataW.weights_mem_each ht hd ((elems.length + spare.length) * P.bytesOf e) (by simp only [DataW.weights, hu]; exact h1))
  simpa using this
section
variable {H : Type} {enc : TypeId × Value → H} {w : World} {base : Nat} {held : Bool}
theorem u8s_in {n : Nat} {cs : List Value} {x : DataW H × List MemPlace} (h : DataW.trod enc Try.prog w base (fun _ => true) held n 68 cs = some x) :
    ∃ (a : Option Addr) (cap : Nat) (l : List Int), cs = [.slice a l.length cap] ∧ SlA w a l.length cap (l.map (Value.int .u8)) ∧ ∀ z ∈ l, 0 ≤ z ∧ z ≤ 255 := by
  rcases open_ints Try.underlying68 Try.underlying5 (by kernel_rfl) h with ⟨hcs, _⟩ | ⟨a, len, cap, zs, hcs, _, hl, hm, hzl, hx, hcell, hwz⟩
  · exact ⟨none, 0, [], hcs, SlA.nil w, by simp⟩
  · obtain ⟨l, hlen, hs, hw⟩ := sla_of_row (w := w) (a := some a) (len := len) (cap := cap) (k := .u8) (.inr ⟨a, rfl, hl, hm, by simpa using hzl, hcell, hwz⟩)
    subst hlen
    exact ⟨some a, cap, l, hcs, hs, fun z hz => by have := bounds_u8 (hw z hz); omega⟩
theorem u32s_in {n : Nat} {cs : List Value} {x : DataW H × List MemPlace} (h : DataW.trod enc Try.prog w base (fun _ => true) held n 49 cs = some x) :
    ∃ (a : Option Addr) (cap : Nat) (l : List Int), cs = [.slice a l.length cap] ∧ SlA w a l.length cap (l.map (Value.int .u32)) ∧ (∀ z ∈ l, 0 ≤ z ∧ z < 4294967296) ∧ (l = [] ∨ ∃ elems spare, x.1 = .slice elems spare ∧ l.length ≤ elems.length + spare.length) := by
  rcases open_ints Try.underlying49 Try.underlying24 (by kernel_rfl) h with ⟨hcs, _⟩ | ⟨a, len, cap, zs, hcs, _, hl, hm, hzl, hx, hcell, hwz⟩
  · exact ⟨none, 0, [], hcs, SlA.nil w, by simp, .inl rfl⟩
  · obtain ⟨l, hlen, hs, hw⟩ := sla_of_row (w := w) (a := some a) (len := len) (cap := cap) (k := .u32) (.inr ⟨a, rfl, hl, hm, by simpa using hzl, hcell, hwz⟩)
    have hz2 : len ≤ zs.length := by rw [hzl]; split <;> omega
    subst hlen
    refine ⟨some a, cap, l, hcs, hs, fun z hz => by have := bounds_u32 (hw z hz); omega, .inr ⟨_, _, congrArg Prod.fst hx, ?_⟩⟩
    simp only [lits, List.length_map, List.length_take, List.length_drop]
    omega

set_option maxRecDepth 100000 in
set_option maxHeartbeats 1000000 in
theorem shake_of {v : Value} {r : Reach} {b : Nat} {d : DataW H} {p : List MemPlace} {ts : List TypeId} {ds : List (DataW H)} (ok : Value.okWide Try.prog w r b 110 v) (h : ∃ n, DataW.trod enc Try.prog w base (fun _ => true) held n 110 v.cells.toList = some (d, p))
    (hsz : (DataW.weightsEach Try.prog (110 :: ts) (d :: ds)).all (· ≤ reachBytes) = true) :
    ∃ (z0 z1 z2 z3 : Int) (a0 : Option Addr) (c0 : Nat) (l0 : List Int) (a1 : Option Addr) (c1 : Nat) (l1 : List Int) (high : Bool) (a2 : Option Addr) (c2 : Nat) (lc : List Int),
      v = .agg #[.int .u8 z0, .int .u8 z1, .int .u8 z2, .int .u8 z3, .slice a0 l0.length c0, .slice a1 l1.length c1, .bool high, .slice a2 lc.length c2] ∧ (0 ≤ z0 ∧ z0 ≤ 255) ∧ (0 ≤ z1 ∧ z1 ≤ 255) ∧ (0 ≤ z2 ∧ z2 ≤ 255) ∧ (0 ≤ z3 ∧ z3 ≤ 255) ∧
      SlA w a0 l0.length c0 (l0.map (Value.int .u8)) ∧ (∀ z ∈ l0, 0 ≤ z ∧ z ≤ 255) ∧ SlA w a1 l1.length c1 (l1.map (Value.int .u8)) ∧ (∀ z ∈ l1, 0 ≤ z ∧ z ≤ 255) ∧ SlA w a2 lc.length c2 (lc.map (Value.int .u32)) ∧ (∀ z ∈ lc, 0 ≤ z ∧ z < 4294967296) ∧ lc.length * 4 ≤ 140737488355328 := by
  obtain ⟨cs, rfl, _⟩ := okWide_struct Try.underlying110 ok
  obtain ⟨n, hm⟩ := h
  obtain ⟨xs, m, _, hx, hlen, hxl, hf⟩ := DataW.trod_struct Try.underlying110 hm
  have hc : Try.prog.cellsOf 110 = 8 := by kernel_rfl
  have k1 : Try.prog.cellsOf 107 = 4 := by kernel_rfl
  have k2 : Try.prog.cellsOf 108 = 2 := by kernel_rfl
  have k3 : Try.prog.cellsOf 4 = 1 := by kernel_rfl
  have k4 : Try.prog.cellsOf 49 = 1 := by kernel_rfl
  have k5 : Try.prog.cellsOf 68 = 1 := by kernel_rfl
  rw [hc] at hlen
  obtain ⟨l, rfl⟩ : ∃ l : List Value, cs = l.toArray := ⟨cs.toList, by simp⟩
  simp only [Value.cells] at hlen hf
  match l, hlen with
  | [v0, v1, v2, v3, v4, v5, v6, v7], _ =>
    match xs, hxl with
    | [y0, y1, y2, y3], _ =>
      have h0 := hf 0 _ rfl
      have h1 := hf 1 _ rfl
      have h2 := hf 2 _ rfl
      have h3 := hf 3 _ rfl
      have h0' : DataW.trod enc Try.prog w base (fun _ => true) held m 107 (List.take (Try.prog.cellsOf 107) [v0, v1, v2, v3, v4, v5, v6, v7]) = some y0 := h0
      have h1' : DataW.trod enc Try.prog w base (fun _ => true) held m 108 (List.take (Try.prog.cellsOf 108) [v4, v5, v6, v7]) = some y1 := h1
      have h2' : DataW.trod enc Try.prog w base (fun _ => true) held m 4 (List.take (Try.prog.cellsOf 4) [v6, v7]) = some y2 := h2
      have h3' : DataW.trod enc Try.prog w base (fun _ => true) held m 49 (List.take (Try.prog.cellsOf 49) [v7]) = some y3 := h3
      rw [k1] at h0'
      rw [k2] at h1'
      rw [k3] at h2'
      rw [k4] at h3'
      have g0 := flat_of 8 107 [.int .u8, .int .u8, .int .u8, .int .u8] _ (by kernel_rfl) ⟨_, _, h0'⟩
      obtain ⟨_, _, q0, ⟨z0, rfl, u0⟩, _, _, rfl, ⟨z1, rfl, u1⟩, _, _, rfl, ⟨z2, rfl, u2⟩, _, _, rfl, ⟨z3, rfl, u3⟩, rfl⟩ := g0
      have g2 := flat_of 8 4 [.bool] _ (by kernel_rfl) ⟨_, _, h2'⟩
      obtain ⟨_, _, q2, ⟨high, rfl⟩, rfl⟩ := g2
      obtain ⟨a2, c2, lc, q3, s2, r2, hz⟩ := u32s_in h3'
      obtain ⟨ys, m2, _, -, -, hyl, hg⟩ := DataW.trod_array Try.underlying108 h1'
      rw [k5] at hg
      match ys, hyl with
      | [e0, e1], _ =>
        have j0 := hg 0 (by omega)
        have j1 := hg 1 (by omega)
        obtain ⟨a0, c0, l0, p0, s0, r0⟩ := u8s_in (show DataW.trod enc Try.prog w base (fun _ => true) held m2 68 [v4] = some e0 from j0)
        obtain ⟨a1, c1, l1, p1, s1, r1⟩ := u8s_in (show DataW.trod enc Try.prog w base (fun _ => true) held m2 68 [v5] = some e1 from j1)
        have hb : lc.length * 4 ≤ 140737488355328 := by
          rcases hz with rfl | ⟨elems, spare, e9, hle⟩
          · simp
          · have hd : d = .agg [y0.1, y1.1, y2.1, y3.1] := congrArg Prod.fst hx
            have := sized_field hsz (j := 0) (i := 3) (t := 110) (t2 := 49) (e := 24) rfl (by rw [hd]; rfl) Try.underlying110 rfl (by rw [← e9]; rfl) Try.underlying49
            rw [show Try.prog.bytesOf 24 = 4 by kernel_rfl] at this
            simp only [reachBytes] at this
            omega
        clear h0 h1 h2 h3 h0' h1' h2' h3' hf hx hm hg j0 j1 hz
        simp at q0 q2 q3 p0 p1
        obtain ⟨rfl, rfl, rfl, rfl⟩ := q0
        subst q2 q3 p0 p1
        exact ⟨z0, z1, z2, z3, a0, c0, l0, a1, c1, l1, high, a2, c2, lc, rfl, by have := bounds_u8 u0; omega, by have := bounds_u8 u1; omega, by have := bounds_u8 u2; omega, by have := bounds_u8 u3; omega, s0, r0, s1, r1, s2, r2, hb⟩
end
end Go.Proofs.Ytdpnkikaciigoaa
