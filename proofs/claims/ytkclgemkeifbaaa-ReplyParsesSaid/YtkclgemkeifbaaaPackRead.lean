/-
  pack.Read: what a call reads.
-/
import Derived.Test.YtkclgemkeifbaaaPackWrite
namespace Go.Proofs.Ytkclgemkeifbaaa
open Go.RowKit Go.Proofs

/-- what came of a call that reads -/
inductive ROut where
  | ok (rest : ByteArray)
  | ref (c : Int)
  | other (s : ByteArray)

inductive REnds (b : Nat) (w : World) : ROut → Ending → Prop where
  | ok (rest : ByteArray) (h : RdAt w b rest) : REnds b w (.ok rest) (.returned (.tuple #[]))
  | ref (c : Int) (h : c ≠ 0) : REnds b w (.ref c) (.panicked [{ v := refused c, recovered := false }])
  | other (s : ByteArray) : REnds b w (.other s) (.panicked [{ v := .iface 9 (.string s), recovered := false }])

def ROut.ending : ROut → Ending
  | .ok rest => .returned (.int .i64 (if rest.size = 0 then 0 else 3))
  | .ref c => .returned (.int .i64 c)
  | .other s => .panicked [{ v := .iface 9 (.string s), recovered := false }, { v := .iface 9 (.string s), recovered := true }]

set_option maxHeartbeats 1000000 in
set_option maxRecDepth 100000 in
theorem read1_any (n : Nat) (F : FuncId) (cap : Array Value) (w : World) (R : Ending → World → Prop) (hent : ∀ a w, (callFunc F (#[a] ++ cap)).run Try.prog w = .ok (.enter F (#[a] ++ cap)) w)
    (h0 : w.cell? ⟨n, 0, none⟩ = some (.func (.func F) #[] cap)) (h2 : w.cell? ⟨n + 2, 0, none⟩ = some (.pointer (some ⟨n + 1, 0, none⟩))) (hc : Calls Try.prog F (#[.pointer (some ⟨n + 1, 0, none⟩)] ++ cap) w R)
    (hR : ∀ e w', R e w' → e = .returned (.tuple #[]) ∨ ∃ ch, e = .panicked ch) :
    Calls Try.prog 90 #[.pointer (some ⟨n, 0, none⟩), .pointer (some ⟨n + 2, 0, none⟩)] w R := by
  go_enter Try.func90, Try.ntmps90
  go_wp2_with fail
  refine hc.mono ?_
  intro e w1 hr
  rcases hR e w1 hr with rfl | ⟨ch, rfl⟩
  · go_wp2_with fail
    go_end0
    exact hr
  · go_wp2_with fail
    exact ⟨rfl, hr⟩

/-- the world in which Read calls run -/
theorem read_start (W : World) (s : ByteArray) (f : Value) : ∃ w3 : World, w3 = (((W.alloc (.cells #[f] 135)).alloc (.cells #[.string s] 177)).alloc (.cells #[.pointer (some ⟨W.heap.size + 1, 0, none⟩)] 147)) ∧
    Fr (fun _ => False) W w3 ∧ w3.heap.size = W.heap.size + 3 ∧ w3.heap[W.heap.size]? = some (.cells #[f] 135) ∧ w3.heap[W.heap.size + 1]? = some (.cells #[.string s] 177) ∧
    w3.heap[W.heap.size + 2]? = some (.cells #[.pointer (some ⟨W.heap.size + 1, 0, none⟩)] 147) := by
  refine ⟨_, rfl, (((Fr.refl _ W).alloc _).alloc _).alloc _, by simp, ?_, ?_, ?_⟩
  · rw [heap_alloc_if, if_neg (by simp; omega), heap_alloc_if, if_neg (by simp), heap_alloc_if, if_pos rfl]
  · rw [heap_alloc_if, if_neg (by simp), heap_alloc_if, if_pos (by simp)]
  · rw [heap_alloc_if, if_pos (by simp)]

set_option maxHeartbeats 1000000 in
set_option maxRecDepth 100000 in
theorem packRead_any (s : ByteArray) (F : FuncId) (cap : Array Value) (W : World) (T : Nat → Prop) (G : ROut → World → Prop) (hs : s.size ≤ 9223372036854775807) (hent : ∀ a w, (callFunc F (#[a] ++ cap)).run Try.prog w = .ok (.enter F (#[a] ++ cap)) w)
    (hT : ∀ k, T k → k < W.heap.size)
    (hc : ∀ w, Fr (fun _ => False) W w → RdAt w (W.heap.size + 1) s →
      Calls Try.prog F (#[.pointer (some ⟨W.heap.size + 1, 0, none⟩)] ++ cap) w fun e w' => Fr (fun k => wS W.heap.size k ∨ T k) w w' ∧ ∃ x, REnds (W.heap.size + 1) w' x e ∧ G x w') :
    Calls Try.prog 53 #[.string s, .func (.func F) #[] cap] W fun e w' => ∃ w0 x, G x w0 ∧ e = x.ending ∧ Fr (fun k => W.heap.size ≤ k) w0 w' ∧ W.heap.size ≤ w0.heap.size ∧ Fr (fun k => W.heap.size ≤ k ∨ T k) W w' := by
  have hmf : ∀ (fn : Fn) (first cap : Array Value) (w : World), (Instr.makeFunc fn first cap).run Try.prog w = .ok (.func fn first cap) w := fun _ _ _ _ => rfl
  obtain ⟨w3, hw3, hf3, hs3, b0, b1, b2⟩ := read_start W s (.func (.func F) #[] cap)
  have hb4 : ∀ k, (w3.alloc (.cells #[.int .i64 0] 37)).heap[k]? = if k = W.heap.size + 3 then some (.cells #[.int .i64 0] 37) else w3.heap[k]? := fun k => by rw [heap_alloc_if, hs3]
  have hw4 : RdAt (w3.alloc (.cells #[.int .i64 0] 37)) (W.heap.size + 1) s :=
    ⟨by rw [World.cell?, hb4, if_neg (by simp), b1]; rfl, by rw [World.frozen?, hb4, if_neg (by simp), b1]; rfl, hs⟩
  have hf4 := hf3.alloc (.cells #[.int .i64 0] 37)
  have hcall := read1_any W.heap.size F cap (w3.alloc (.cells #[.int .i64 0] 37)) _ hent
    (by rw [World.cell?, hb4, if_neg (by simp), b0]; rfl) (by rw [World.cell?, hb4, if_neg (by simp), b2]; rfl) (hc _ hf4 hw4)
    (by rintro e w' ⟨_, x, hx, _⟩; cases hx; exact .inl rfl; exact .inr ⟨_, rfl⟩; exact .inr ⟨_, rfl⟩)
  have hrun := run_any 90 #[.pointer (some ⟨W.heap.size, 0, none⟩), .pointer (some ⟨W.heap.size + 2, 0, none⟩)] w3 _ (fun w => enters_fn Try.func90 (by kernel_rfl) rfl _ w) hcall
    (by
      rintro e w' ⟨hf, x, hx, _⟩
      have hr : ¬ (wS W.heap.size (W.heap.size + 3) ∨ T (W.heap.size + 3)) := by
        intro h; rcases h with h | h
        · unfold wS at h; omega
        · have := hT _ h; omega
      rw [hs3]
      have c4 : (w3.alloc (.cells #[.int .i64 0] 37)).cell? ⟨W.heap.size + 3, 0, none⟩ = some (.int .i64 0) := by rw [World.cell?, hb4, if_pos rfl]; rfl
      refine ⟨hf.cell c4 hr, by rw [hf.frozen c4 hr, World.frozen?, hb4, if_pos rfl]; rfl, ?_⟩
      cases hx with
      | ok l => exact ⟨_, _, .ret⟩
      | ref c => exact ⟨_, _, .ref c⟩
      | other s => exact ⟨_, _, .other s⟩)
  have k2 : ∀ w', Fr (fun k => wS W.heap.size k ∨ T k) (w3.alloc (.cells #[.int .i64 0] 37)) w' → w'.cell? ⟨W.heap.size + 1 + 1, 0, none⟩ = some (.pointer (some ⟨W.heap.size + 1, 0, none⟩)) := by
    intro w' hf
    refine hf.cell (p := ⟨W.heap.size + 2, 0, none⟩) (by rw [World.cell?, hb4, if_neg (by simp), b2]; rfl) ?_
    intro h; rcases h with h | h
    · unfold wS at h; simp only at h; omega
    · have := hT _ h; simp only at this; omega
  have K2 := Lib.hid k2; clear k2
  have HR := Lib.hid hrun; clear hrun
  have HF4 := Lib.hid hf4; clear hf4
  have HB4 := Lib.hid hb4; clear hb4
  clear hcall hw4 hc b0 b1 b2
  go_enter Try.func53, Try.ntmps53
  go_wp2_with fail
  rw [← hw3]
  refine HR.out.mono ?_
  rw [hs3]
  rintro e w5 ⟨e0, w0, ⟨hf0, x, hx, hg⟩, hend⟩
  have hs0 := hf0.size
  simp only [World.size_alloc, hs3] at hs0
  have hW0 : Fr (fun k => W.heap.size ≤ k ∨ T k) W w0 := (HF4.out.mono (T := fun k => W.heap.size ≤ k ∨ T k) (by intro k hk h; exact h.elim)).trans hf0 (by
    intro k hk
    left
    rcases hk with hk | hk
    · unfold wS at hk; left; omega
    · right; exact hk)
  have hkk := K2.out w0 hf0
  have hn3 : w0.heap[W.heap.size + 3]? = some (.cells #[.int .i64 0] 37 (0, 0)) := by
    rw [hf0.block (W.heap.size + 3) (by simp [hs3]) (by
      intro h; rcases h with h | h
      · unfold wS at h; omega
      · have := hT _ h; omega), HB4.out, if_pos rfl]
  have HG := Lib.hid hg; clear hg
  have HW0 := Lib.hid hW0; clear hW0
  have HN3 := Lib.hid hn3; clear hn3
  clear hf0 HF4 HB4 K2 HR hw3 hf3
  cases hx with
  | ok rest hrd =>
    cases hend with
    | ret =>
      have hf5 : Fr (fun k => k = W.heap.size + 3) w0 (w0.setCell ⟨W.heap.size + 3, 0, none⟩ (.int .i64 0)) := (Fr.refl (fun k => k = W.heap.size + 3) w0).setCell (p := ⟨W.heap.size + 3, 0, none⟩) (.inl rfl) _
      have hk5 := hf5.cell hkk (by simp)
      have hr5 := hf5.cell hrd.1 (by simp)
      have h06 : Fr (fun k => W.heap.size ≤ k) w0 (w0.setCell ⟨W.heap.size + 3, 0, none⟩ (.int .i64 0)) := hf5.mono (T := fun k => W.heap.size ≤ k) (by intro k hk h; omega)
      have H06 := Lib.hid h06; clear h06
      clear hrd hkk hf5
      by_cases hz : rest.size = 0
      · have hz' : rest = ByteArray.empty := by
          apply ByteArray.ext; apply Array.eq_empty_of_size_eq_zero; exact hz
        subst hz'
        go_wp2_with fail
        go_ret
        exact ⟨w0, .ok ByteArray.empty, HG.out, by simp [ROut.ending], H06.out, by omega, HW0.out.trans H06.out (by intro k hk; exact .inl (.inl hk))⟩
      · have hq : rest.toList.isEmpty = false := by
          rw [ByteArray.toList_eq]
          cases hl : rest.data.toList with
          | nil => exact absurd (by rw [← ByteArray.size_data, ← Array.length_toList, hl]; rfl) hz
          | cons _ _ => rfl
        go_wp2_with fail
        go_ret
        exact ⟨w0, .ok rest, HG.out, by simp [ROut.ending, hz], H06.out, by omega, HW0.out.trans H06.out (by intro k hk; exact .inl (.inl hk))⟩
  | ref c hc0 =>
    cases hend with
    | ref c =>
      have hlt : W.heap.size + 3 < w0.heap.size := by omega
      have h06 : Fr (fun k => W.heap.size ≤ k) w0 ((w0.setCell ⟨W.heap.size + 3, 0, none⟩ (.int .i64 c)).alloc (.cells #[.int .i64 c] 202)) := ((Fr.refl (fun k => W.heap.size ≤ k) w0).setCell (p := ⟨W.heap.size + 3, 0, none⟩) (.inl (by simp)) _).alloc _
      have H06 := Lib.hid h06; clear h06
      go_wp2_with fail
      go_ret
      exact ⟨w0, .ref c, HG.out, rfl, H06.out, by omega, HW0.out.trans H06.out (by intro k hk; exact .inl (.inl hk))⟩
  | other s =>
    cases hend with
    | other s =>
      go_wp2_with fail
      exact ⟨rfl, _, .other s, HG.out, rfl, Fr.refl _ _, by omega, HW0.out⟩
end Go.Proofs.Ytkclgemkeifbaaa
