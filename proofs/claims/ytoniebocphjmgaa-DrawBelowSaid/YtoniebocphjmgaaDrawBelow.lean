/-
  The walk of DrawBelow: it returns true for every input and turns nothing that was there.
-/
import Derived.Test.YtoniebocphjmgaaDrawA
namespace Go.Proofs.Ytoniebocphjmgaa
open Go.RowKit Go.Proofs

theorem drawBelow_walk (al : Option Addr) (cl : Nat) (l : List Int) (an : Option Addr) (cn : Nat) (ns : List Int) (W : World)
   (hl : SlA W al l.length cl (l.map (Value.int .u32))) (hn : SlA W an ns.length cn (ns.map (Value.int .i64))) (hr : ∀ x ∈ l, 0 ≤ x ∧ x < 4294967296) :
    Calls Try.prog 3 #[.slice al l.length cl, .slice an ns.length cn] W fun e w' => e = .returned (.bool true) ∧ Below W.heap.size W w' := by
  have hl1 := hl.le
  have hl2 := hl.max
  have hn1 := hn.le
  have hn2 := hn.max
  have HN := Lib.hid hn; clear hn
  obtain ⟨l', hm1, hl', hl'2, hite, _⟩ := cut_list (Value.int .u32) W al cl l 20 20 rfl hl
  have hm3 : l'.length ≤ l.length := by rw [hl']; simp; omega
  have hr' : ∀ x ∈ l', 0 ≤ x ∧ x < 4294967296 := fun x hx => hr x (by rw [hl'] at hx; exact List.mem_of_mem_take hx)
  clear hl' hr hl
  have HL := Lib.hid hl'2; clear hl'2
  have HR := Lib.hid hr'; clear hr'
  go_enter Try.func3, Try.ntmps3
  go_wp2_with fail
  refine (speaks02 W).mono ?_
  rintro e w1 ⟨rfl, hb1⟩
  go_wp2_with fail
  refine (new_any al cl l' w1 (SlA.below hb1 (Nat.le_refl _) HL.out) (by omega) HR.out).mono ?_
  rintro e w2 ⟨d, rfl, hd, hD, hb2⟩
  have hs1 := hb1.size
  have hb2' : Below W.heap.size W w2 := hb1.trans (hb2.mono hs1)
  clear hite
  go_wp2_with fail
  go_loopw [6, 7] (fun at_ i wr => ∃ k a : Nat, at_ = .int .i64 a ∧ i = .int .i64 k ∧ k ≤ ns.length ∧ a ≤ l'.length ∧ DrawAt wr d (l'.drop a) ∧ Below W.heap.size W wr) (fun _ i _ => ns.length - (intOf i).toNat)
  case atStart => exact ⟨0, 0, rfl, rfl, Nat.zero_le _, Nat.zero_le _, by simpa using hD, hb2'⟩
  case round =>
    obtain ⟨k, a, rfl, rfl, hk, ha, hDr, hbr⟩ := hrel
    have hbs := hbr.size
    by_cases hk1 : k < ns.length
    · by_cases hk2 : k < 40
      · obtain ⟨bn, on, rfl, hcn⟩ := HN.out.cell k (.int .i64 ns[k]) (by simp [hk1])
        have hcn' := (hbr.cell (lt_of_cell hcn)).trans hcn
        by_cases c : 2 ≤ ns[k] ∧ ns[k] < 2147483648
        · obtain ⟨c1, c2⟩ := c
          by_cases c3 : a < l'.length
          · obtain ⟨bl, ol, rfl, hcl⟩ := HL.out.cell a (.int .u32 l'[a]) (by simp [c3])
            have hcl' := (hbr.cell (lt_of_cell hcl)).trans hcl
            have hrg := HR.out l'[a] (List.getElem_mem c3)
            have hrg1 := hrg.1
            have hrg2 := hrg.2
            have B1 := Lib.hid (bel_in c1 c2 c3)
            clear hcn hcl hrg
            go_wp2_with fail
            go_quiet (fail)
            go_wp2_with fail
            refine (below_any d _ _ _ (hDr.drewN _)).mono ?_
            rw [B1.out]
            rintro e w3 ⟨rfl, hD3, hf3⟩
            go_wp2_with fail
            refine (left_n d _ (l'.length - (a + 1)) (by simp) _ hD3).mono ?_
            rintro e w4 ⟨rfl, rfl⟩
            clear hcl'
            go_wp2_with fail
            go_roundw
            case rel => exact ⟨k + 1, a + 1, by go_num, by go_num, by omega, by omega, hD3, hf3.undrewN.below hbr (by omega) (by intro q hq; omega)⟩
            case measure => simp [intOf]; omega
          · have e0 : l'.drop a = [] := by simp; omega
            have B1 : Hid (bel (l'.drop a) ns[k] = (0, l'.drop a)) := by rw [e0]; unfold bel; split <;> rfl
            go_wp2_with fail
            refine (below_any d _ _ _ hDr).mono ?_
            rw [B1.out]
            rintro e w3 ⟨rfl, hD3, hf3⟩
            go_wp2_with fail
            refine (left_n d _ (l'.length - a) (by simp) _ hD3).mono ?_
            rintro e w4 ⟨rfl, rfl⟩
            go_wp2_with fail
            go_roundw
            case rel => exact ⟨k + 1, a, by go_num, by go_num, by omega, by omega, hD3, hf3.below hbr (by omega) (by intro q hq; omega)⟩
            case measure => simp [intOf]; omega
        · have B1 : Hid (bel (l'.drop a) ns[k] = (0, l'.drop a)) := bel_out (by omega)
          by_cases c1 : 2 ≤ ns[k]
          · have c2 : ¬ ns[k] < 2147483648 := by omega
            clear c
            go_wp2_with fail
            refine (below_any d _ _ _ hDr).mono ?_
            rw [B1.out]
            rintro e w3 ⟨rfl, hD3, hf3⟩
            go_wp2_with fail
            refine (left_n d _ (l'.length - a) (by simp) _ hD3).mono ?_
            rintro e w4 ⟨rfl, rfl⟩
            go_wp2_with fail
            go_roundw
            case rel => exact ⟨k + 1, a, by go_num, by go_num, by omega, by omega, hD3, hf3.below hbr (by omega) (by intro q hq; omega)⟩
            case measure => simp [intOf]; omega
          · clear c
            go_wp2_with fail
            refine (below_any d _ _ _ hDr).mono ?_
            rw [B1.out]
            rintro e w3 ⟨rfl, hD3, hf3⟩
            go_wp2_with fail
            refine (left_n d _ (l'.length - a) (by simp) _ hD3).mono ?_
            rintro e w4 ⟨rfl, rfl⟩
            go_wp2_with fail
            go_roundw
            case rel => exact ⟨k + 1, a, by go_num, by go_num, by omega, by omega, hD3, hf3.below hbr (by omega) (by intro q hq; omega)⟩
            case measure => simp [intOf]; omega
      · go_wp2_with fail
        refine (below_nil _ _).mono ?_
        rintro e w3 ⟨rfl, rfl⟩
        go_wp2_with fail
        refine (left_nil _).mono ?_
        rintro e w3 ⟨rfl, rfl⟩
        go_wp2_with fail
        go_ret
        exact ⟨rfl, hbr⟩
    · go_wp2_with fail
      refine (below_nil _ _).mono ?_
      rintro e w3 ⟨rfl, rfl⟩
      go_wp2_with fail
      refine (left_nil _).mono ?_
      rintro e w3 ⟨rfl, rfl⟩
      go_wp2_with fail
      go_ret
      exact ⟨rfl, hbr⟩
end Go.Proofs.Ytoniebocphjmgaa
