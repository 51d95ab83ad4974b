/-
  A reader's block over worlds.
-/
import Derived.Test.YtkclgemkeifbaaaPackRead
namespace Go.Proofs.Ytkclgemkeifbaaa
open Go.RowKit Go.Proofs

theorem RdAt.keep {T : Nat → Prop} {w w' : World} {b : Nat} {s : ByteArray} (h : RdAt w b s) (f : Fr T w w') (hb : ¬ T b) : RdAt w' b s :=
  ⟨f.cell h.1 hb, by rw [f.frozen h.1 hb]; exact h.2.1, h.2.2⟩
end Go.Proofs.Ytkclgemkeifbaaa
