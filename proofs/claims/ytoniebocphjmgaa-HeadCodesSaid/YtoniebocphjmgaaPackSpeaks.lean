/-
  The first line of the laws of package pack: it speaks.
-/
import Derived.Test.YtoniebocphjmgaaPackRead
namespace Go.Proofs.Ytoniebocphjmgaa
open Go.RowKit Go.Proofs

theorem RdAt.keep {T : Nat → Prop} {w w' : World} {b : Nat} {s : ByteArray} (h : RdAt w b s) (f : Fr T w w') (hb : ¬ T b) : RdAt w' b s :=
  ⟨f.cell h.1 hb, by rw [f.frozen h.1 hb]; exact h.2.1, h.2.2⟩

set_option maxHeartbeats 1000000 in
set_option maxRecDepth 100000 in
theorem speaks01_1 (B : Nat) (S : Nat → Prop) (b : Nat) (w : World) (h : WrAt B S w b (.pointer none) (.slice none 0 0) []) :
    Calls Try.prog 66 #[.pointer (some ⟨b, 0, none⟩)] w fun e w' => Fr S w w' ∧ ∃ x, WEnds B S b w' x e ∧ x = .ok [1, 2, 1, 97] := by
  have H := Lib.hid h; clear h
  go_enter Try.func66, Try.ntmps66
  go_wp2_with fail
  refine (writerNum_any B S w b _ _ _ 258 2 H.out (by omega) (by omega) (by simp) ⟨by omega, by omega, by decide⟩).mono ?_
  rintro e w1 ⟨rfl, ⟨p1, v1, h1⟩, hf1⟩
  have H1 := Lib.hid h1; clear h1
  go_wp2_with fail
  refine (writerText_any B S w1 b p1 v1 _ ⟨#[97]⟩ H1.out (by simp [Lib.byteCells_length, bigEnd_length]) (by decide)).mono ?_
  rintro e w2 ⟨rfl, ⟨p2, v2, h2⟩, hf2⟩
  go_wp2_with fail
  go_end0
  exact ⟨hf1.trans hf2 (fun k hk => .inl hk), _, .ok [1, 2, 1, 97] p2 v2 h2, rfl⟩

set_option maxHeartbeats 1000000 in
set_option maxRecDepth 100000 in
theorem speaks01_2 (b : Nat) (n : Nat) (w : World) (h : RdAt w b ⟨#[0, 7]⟩) (hn : w.cell? ⟨n, 0, none⟩ = some (.int .u64 0)) (hz : w.frozen? ⟨n, 0, none⟩ = false) (hnb : n ≠ b) :
    Calls Try.prog 67 #[.pointer (some ⟨b, 0, none⟩), .pointer (some ⟨n, 0, none⟩)] w fun e w' => Fr (fun k => k = b ∨ k = n) w w' ∧ ∃ x, REnds b w' x e ∧ x = .ok ByteArray.empty ∧ w'.cell? ⟨n, 0, none⟩ = some (.int .u64 7) := by
  have H := Lib.hid h; clear h
  go_enter Try.func67, Try.ntmps67
  go_wp2_with fail
  refine (readerNum_ok b 2 _ w H.out (by omega) (by omega) (by decide)).mono ?_
  rintro e w1 ⟨rfl, hr1, hf1⟩
  have c1 := hf1.cell hn hnb
  have c2 := hf1.frozen hn hnb
  rw [hz] at c2
  go_wp2_with fail
  go_end0
  have hr2 : RdAt (w1.setCell ⟨n, 0, none⟩ (.int .u64 (getNum [0, 7] : Nat))) b ByteArray.empty :=
    RdAt.keep (T := fun k => k = n) hr1 ((Fr.refl (fun k => k = n) w1).setCell (p := ⟨n, 0, none⟩) (.inl rfl) _) (fun h => hnb h.symm)
  refine ⟨(hf1.mono (T := fun k => k = b ∨ k = n) (fun k _ hk => .inl hk)).setCell (p := ⟨n, 0, none⟩) (.inl (.inr rfl)) _, _, .ok _ hr2, rfl, ?_⟩
  rw [World.cell?_setCell_same _ _ _ c1]; rfl

set_option maxHeartbeats 1000000 in
set_option maxRecDepth 100000 in
theorem speaks01 (W : World) : Calls Try.prog 23 #[] W fun e w' => e = .returned (.bool true) ∧ Below W.heap.size W w' := by
  have hmf : ∀ (fn : Fn) (first cap : Array Value) (w : World), (Instr.makeFunc fn first cap).run Try.prog w = .ok (.func fn first cap) w := fun _ _ _ _ => rfl
  have hw := packWrite_any 66 #[] W (fun _ => False) (fun x _ => x = .ok [1, 2, 1, 97]) (fun a w => enters_fn Try.func66 (by kernel_rfl) rfl _ w) (fun k h => h.elim)
    (fun w _ h => (speaks01_1 _ _ _ w h).mono (by rintro e w' ⟨hf, x, hx, hg⟩; exact ⟨hf.mono (fun k _ hk => .inl hk), x, hx, hg⟩))
  have HW := Lib.hid hw; clear hw
  go_enter Try.func23, Try.ntmps23
  go_wp2_with fail
  refine HW.out.mono ?_
  rintro e w1 ⟨w0, x, rfl, he, _, _, hf1⟩
  simp only [WOut.ending] at he
  subst he
  have hs1 := hf1.size
  have hb1 : Below W.heap.size W w1 := Fr.below (Below.refl _ W) hf1 (Nat.le_refl _) (by intro k hk; rcases hk with hk | hk; exact hk; exact hk.elim)
  clear hf1
  have c0 : (w1.alloc (.cells #[.int .u64 0] 42)).cell? ⟨w1.heap.size, 0, none⟩ = some (.int .u64 0) := by rw [World.cell?_alloc_at _ _ _ _ rfl]; rfl
  have z0 : (w1.alloc (.cells #[.int .u64 0] 42)).frozen? ⟨w1.heap.size, 0, none⟩ = false := by rw [World.frozen?, heap_alloc_if, if_pos rfl]; rfl
  have hr := packRead_any ⟨#[0, 7]⟩ 67 #[.pointer (some ⟨w1.heap.size, 0, none⟩)] (w1.alloc (.cells #[.int .u64 0] 42)) (fun k => k = w1.heap.size) (fun x w' => x = .ok ByteArray.empty ∧ w'.cell? ⟨w1.heap.size, 0, none⟩ = some (.int .u64 7)) (by decide)
    (fun a w => enters_fn Try.func67 (by kernel_rfl) rfl _ w) (fun k h => by subst h; simp)
    (fun w hfw h => (speaks01_2 _ w1.heap.size w h (hfw.cell c0 (fun h => h)) (by rw [hfw.frozen c0 (fun h => h)]; exact z0) (by simp; omega)).mono (by
      rintro e w' ⟨hf, x, hx, hg⟩
      exact ⟨hf.mono (fun k _ hk => by rcases hk with hk | hk; exact .inl (.inl hk); exact .inr hk), x, hx, hg⟩))
  have HR := Lib.hid hr; clear hr c0 z0
  go_wp2_with fail
  refine HR.out.mono ?_
  rintro e w2 ⟨w0, x, ⟨rfl, c2⟩, he, hf2, hs0, hf3⟩
  simp only [ROut.ending] at he
  subst he
  have c3 := hf2.cell c2 (by simp)
  have hb2 : Below W.heap.size W w2 := Fr.below (hb1.alloc hs1 (.cells #[.int .u64 0] 42)) hf3 (by simp; omega) (by intro k hk; rcases hk with hk | hk; simp at hk; omega; omega)
  clear c2 hf2 hf3 HR HW
  go_wp2_with fail
  go_ret
  exact ⟨rfl, hb2⟩
end Go.Proofs.Ytoniebocphjmgaa
