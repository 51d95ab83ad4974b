/-
  Layer 13: config, speaks (printed by gen_og.py).
-/
import Derived.Test.YtelepohdfcjnfaaGreatZOverNew
import Derived.Deep.CutRange
namespace Go.Proofs.YtelepohdfcjnfaaGreat
set_option maxHeartbeats 4000000
set_option maxRecDepth 100000
open Go.RowKit Go.Proofs
theorem oNew_ok (self:Int) (c:Cf) (hg:cGood c=true):(oNew self c).Ok:=by
 unfold cGood cIn at hg
 simp only [Bool.and_eq_true,decide_eq_true_eq] at hg
 refine ⟨hNew_good _ _ _,?_,?_,?_,?_,?_,?_,?_,?_⟩
 ·simp only [oNew];omega
 ·simp only [oNew];omega
 ·simp only [oNew];omega
 ·simp only [oNew];omega
 ·simp only [oNew];omega
 ·simp only [oNew]
  have h1:(kept (fun n=>n==self) c.seeds).length≤c.seeds.length:=List.length_filter_le _ _
  omega
 ·simp only [oNew];omega
 ·simp only [oNew];omega
end Go.Proofs.YtelepohdfcjnfaaGreat
