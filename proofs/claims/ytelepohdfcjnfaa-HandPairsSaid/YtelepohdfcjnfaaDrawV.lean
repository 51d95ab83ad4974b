/-
  A draw that may be nil, and one of some integers.
-/
import Derived.Test.YtelepohdfcjnfaaDrawG
import Derived.Test.YtelepohdfcjnfaaSetLib
import Derived.Test.YtelepohdfcjnfaaViewSpec
namespace Go.Proofs.Ytelepohdfcjnfaa
open Go.RowKit Go.Proofs

/-- the pointer p is a draw of these numbers; nil is a draw of none -/
def DrawV (w : World) (p : Value) (ds : List Int) : Prop := (p = .pointer none ∧ ds = []) ∨ ∃ d, p = .pointer (some ⟨d, 0, none⟩) ∧ DrawAt w d ds
def pblk (p : Value) (k : Nat) : Prop := p = .pointer (some ⟨k, 0, none⟩)
theorem DrawV.nil (w : World) : DrawV w (.pointer none) [] := .inl ⟨rfl, rfl⟩
theorem DrawV.keep {w w' : World} {p : Value} {ds : List Int} (h : DrawV w p ds) (f : Gr w w') : DrawV w' p ds := by
  rcases h with h | ⟨d, h1, h2⟩
  · exact .inl h
  · exact .inr ⟨d, h1, h2.keep f (fun _ _ h => h)⟩
theorem DrawV.range {w : World} {p : Value} {ds : List Int} (h : DrawV w p ds) : ∀ x ∈ ds, 0 ≤ x ∧ x < 4294967296 := by
  rcases h with ⟨_, rfl⟩ | ⟨d, _, h2⟩
  · simp
  · exact h2.range
theorem fr_pblk {w w' : World} {p : Value} {d : Nat} (hp : p = .pointer (some ⟨d, 0, none⟩)) (f : Fr (· = d) w w') : Fr (pblk p) w w' :=
  f.mono (fun k _ h => by subst h; exact hp)
theorem gr_pblk {w w' : World} {p : Value} (f : Gr w w') : Fr (pblk p) w w' := Fr.mono (S := fun _ => False) f (fun _ _ h => h.elim)
theorem FrP.trans {a b c : World} {p : Value} (h : Fr (pblk p) a b) (k : Fr (pblk p) b c) : Fr (pblk p) a c := Fr.trans h k (fun _ h => .inl h)

theorem belowV_any (p : Value) (ds : List Int) (n : Int) (w : World) (h : DrawV w p ds) :
    Calls Try.prog 100 #[p, .int .i64 n] w fun e w' => e = .returned (.int .i64 (bel ds n).1) ∧ DrawV w' p (bel ds n).2 ∧ Fr (pblk p) w w' := by
  rcases h with ⟨rfl, rfl⟩ | ⟨d, rfl, h2⟩
  · have e : bel [] n = (0, []) := by unfold bel; split <;> rfl
    rw [e]
    refine (below_nil n w).mono ?_
    rintro e w' ⟨rfl, rfl⟩
    exact ⟨rfl, .nil w, Fr.refl _ _⟩
  · refine (below_any d ds n w h2).mono ?_
    rintro e w' ⟨rfl, h3, f⟩
    exact ⟨rfl, .inr ⟨d, rfl, h3⟩, fr_pblk rfl f⟩

def OneEnd (p : Value) (o : Int × Bool × List Int) (w : World) (e : Ending) (w' : World) : Prop := e = .returned (.tuple #[.int .i64 o.1, .bool o.2.1]) ∧ DrawV w' p o.2.2 ∧ Fr (pblk p) w w'

set_option maxHeartbeats 1000000 in
set_option maxRecDepth 100000 in
theorem oneInt_any (p : Value) (ds : List Int) (a : Option Addr) (cap : Nat) (l : List Int) (w : World) (h : DrawV w p ds) (hs : SlA w a l.length cap (ints l)) (hsep : ∀ q, a = some q → ¬ pblk p q.block) :
    Calls Try.prog 83 #[p, .slice a l.length cap] w (OneEnd p (oneV ds l) w) := by
  have hle := hs.le
  have hmx := hs.max
  unfold OneEnd oneV
  by_cases hl : l = []
  · subst hl
    rw [if_pos rfl]
    have H := Lib.hid h
    clear h hs hsep
    go_enter Try.func83, Try.ntmps83
    go_wp2_with fail
    go_ret2
    exact ⟨rfl, H.out, Fr.refl _ _⟩
  · rw [if_neg hl]
    have hlen : 0 < l.length := by
      cases l with
      | nil => exact absurd rfl hl
      | cons x r => simp
    obtain ⟨hb1, hb2⟩ := belN_eq ds l.length h.range hlen
    obtain ⟨k, hk⟩ : ∃ k, k = belN ds l.length := ⟨_, rfl⟩
    obtain ⟨dn, hdn⟩ : ∃ dn, dn = (bel ds l.length).2 := ⟨_, rfl⟩
    have HB := Lib.hid (belowV_any p ds l.length w h)
    rw [hb1, ← hk, ← hdn] at HB
    rw [← hk, ← hdn]
    rw [← hk] at hb2
    have hget : l.getD k 0 = l[k] := by rw [List.getD_eq_getElem?_getD, List.getElem?_eq_getElem hb2]; rfl
    rw [hget]
    obtain ⟨b, o, ha, hc⟩ := hs.int k hb2
    have HS := Lib.hid (hsep _ ha)
    subst ha
    have HC := Lib.hid hc
    have hne : ((l.length : Int) == 0) = false := by simp; omega
    clear h hs hsep hb1 hk hdn hget hl hc
    go_enter Try.func83, Try.ntmps83
    go_wp2_with fail
    refine HB.out.mono ?_
    rintro e w1 ⟨rfl, hd1, f1⟩
    have hc1 := f1.cell HC.out HS.out
    have D1 := Lib.hid hd1
    have F1 := Lib.hid f1
    clear f1 hd1 HB HC HS
    go_wp2_with fail
    go_ret2
    exact ⟨rfl, D1.out, F1.out⟩
end Go.Proofs.Ytelepohdfcjnfaa
