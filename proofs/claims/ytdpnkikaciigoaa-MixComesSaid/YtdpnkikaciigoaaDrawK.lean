/-
  Drawing leaves all integers in memory as they are.
-/
import Derived.Test.YtdpnkikaciigoaaDrawV
namespace Go.Proofs.Ytdpnkikaciigoaa
open Go.RowKit Go.Proofs

theorem belowK_any (d : Nat) (l : List Int) (n : Int) (w : World) (h : DrawAt w d l) :
    Calls Try.prog 105 #[.pointer (some ⟨d, 0, none⟩), .int .i64 n] w fun e w' => e = .returned (.int .i64 (bel l n).1) ∧ DrawAt w' d (bel l n).2 ∧ Fr (· = d) w w' ∧ ∀ (ad : Addr) (k : IntKind) (m : Int), w.cell? ad = some (.int k m) → w'.cell? ad = some (.int k m) := by
  by_cases ho : n < 2 ∨ 2147483647 < n
  · rw [bel_out ho]
    refine (below_out d n w ho).mono ?_
    rintro e w' ⟨rfl, rfl⟩
    exact ⟨rfl, h, Fr.refl _ _, fun _ _ _ h => h⟩
  obtain ⟨a, cap, hd, hf, hs, hr, hb⟩ := h
  cases l with
  | nil =>
    have e : bel [] n = (0, []) := by simp [bel]
    rw [e]
    refine (below_empty d n w (by omega) (by omega) a cap hd).mono ?_
    rintro e w' ⟨rfl, rfl⟩
    exact ⟨rfl, ⟨a, cap, hd, hf, hs, hr, hb⟩, Fr.refl _ _, fun _ _ _ h => h⟩
  | cons x r =>
    have e : bel (x :: r) n = (x % n, r) := by unfold bel; rw [if_pos (by omega)]
    rw [e]
    obtain ⟨b, o, rfl, hc⟩ := hs.cell 0 (.int .u32 x) rfl
    refine (below_in d b o x n _ cap w (by omega) (by omega) (by simp) hs.le hs.max hd hf (hr x (by simp)).1 hc).mono ?_
    rintro e w' ⟨rfl, a, rfl, ha, hab⟩
    have hbd0 : b < d := hb _ rfl
    have hbd : b ≠ d := by omega
    have hfr : Fr (· = d) w (w.setCell ⟨d, 0, none⟩ (.slice (some a) ((x :: r).length - 1) (cap - 1))) := (Fr.refl (· = d) w).setCell (p := ⟨d, 0, none⟩) (.inl rfl) _
    refine ⟨rfl, ⟨some a, cap - 1, ?_, ?_, ⟨?_, ?_, ?_⟩, fun y hy => hr y (by simp [hy]), fun p hp => ?_⟩, hfr, fun ad k m hc => by rw [World.cell?_setCell_other _ _ _ _ (by intro e; subst e; rw [hd] at hc; simp at hc)]; exact hc⟩
    · rw [World.cell?_setCell_same _ _ _ hd]; simp
    · simpa using hf
    · have := hs.le; simp at this ⊢; omega
    · have := hs.max; omega
    · intro j u hj
      have hj' := (List.getElem?_eq_some_iff.1 hj).1
      simp at hj'
      obtain rfl := ha (by simp; omega)
      obtain ⟨b', o', hp, hc'⟩ := hs.cell (j + 1) u (by simpa using hj)
      cases hp
      exact ⟨b, o + 1, rfl, by rw [Nat.add_assoc, Nat.add_comm 1 j]; exact hfr.cell hc' hbd⟩
    · cases hp; rw [hab]; exact hbd0

theorem belowVK_any (p : Value) (ds : List Int) (n : Int) (w : World) (h : DrawV w p ds) :
    Calls Try.prog 105 #[p, .int .i64 n] w fun e w' => e = .returned (.int .i64 (bel ds n).1) ∧ DrawV w' p (bel ds n).2 ∧ Fr (pblk p) w w' ∧ ∀ (ad : Addr) (k : IntKind) (m : Int), w.cell? ad = some (.int k m) → w'.cell? ad = some (.int k m) := by
  rcases h with ⟨rfl, rfl⟩ | ⟨d, rfl, h2⟩
  · have e : bel [] n = (0, []) := by unfold bel; split <;> rfl
    rw [e]
    refine (below_nil n w).mono ?_
    rintro e w' ⟨rfl, rfl⟩
    exact ⟨rfl, .nil w, Fr.refl _ _, fun _ _ _ h => h⟩
  · refine (belowK_any d ds n w h2).mono ?_
    rintro e w' ⟨rfl, h3, f, kk⟩
    exact ⟨rfl, .inr ⟨d, rfl, h3⟩, fr_pblk rfl f, kk⟩

set_option maxHeartbeats 1000000 in
set_option maxRecDepth 100000 in
theorem oneIntK_any (p : Value) (ds : List Int) (a : Option Addr) (cap : Nat) (l : List Int) (w : World) (h : DrawV w p ds) (hs : SlA w a l.length cap (ints l)) :
    Calls Try.prog 76 #[p, .slice a l.length cap] w (OneEnd p (oneV ds l) w) := by
  have hle := hs.le
  have hmx := hs.max
  unfold OneEnd oneV
  by_cases hl : l = []
  · subst hl
    rw [if_pos rfl]
    have H := Lib.hid h
    clear h hs
    go_enter Try.func76, Try.ntmps76
    go_wp2_with fail
    go_ret2
    exact ⟨rfl, H.out, Fr.refl _ _⟩
  · rw [if_neg hl]
    have hlen : 0 < l.length := by
      cases l with
      | nil => exact absurd rfl hl
      | cons x r => simp
    obtain ⟨hb1, hb2⟩ := belN_eq ds l.length h.range hlen
    obtain ⟨k, hk⟩ : ∃ k, k = belN ds l.length := ⟨_, rfl⟩
    obtain ⟨dn, hdn⟩ : ∃ dn, dn = (bel ds l.length).2 := ⟨_, rfl⟩
    have HB := Lib.hid (belowVK_any p ds l.length w h)
    rw [hb1, ← hk, ← hdn] at HB
    rw [← hk, ← hdn]
    rw [← hk] at hb2
    have hget : l.getD k 0 = l[k] := by rw [List.getD_eq_getElem?_getD, List.getElem?_eq_getElem hb2]; rfl
    rw [hget]
    obtain ⟨b, o, ha, hc⟩ := hs.int k hb2
    subst ha
    have HC := Lib.hid hc
    have hne : ((l.length : Int) == 0) = false := by simp; omega
    clear h hs hb1 hk hdn hget hl hc
    go_enter Try.func76, Try.ntmps76
    go_wp2_with fail
    refine HB.out.mono ?_
    rintro e w1 ⟨rfl, hd1, f1, kk⟩
    have hc1 := kk _ _ _ HC.out
    have D1 := Lib.hid hd1
    have F1 := Lib.hid f1
    clear f1 hd1 kk HB HC
    go_wp2_with fail
    go_ret2
    exact ⟨rfl, D1.out, F1.out⟩
end Go.Proofs.Ytdpnkikaciigoaa
