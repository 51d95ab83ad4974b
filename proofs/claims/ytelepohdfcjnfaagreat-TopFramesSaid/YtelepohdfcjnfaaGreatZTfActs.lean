/-
  The choices of TopFrames out of what the frame of a row hands over.
-/
import Derived.Test.YtelepohdfcjnfaaGreatZTopFrames
import Derived.Test.YtelepohdfcjnfaaGreatZFlat
namespace Go.Proofs.YtelepohdfcjnfaaGreat
open Go.RowKit Go.Proofs
theorem tchs_of {L:List (List Value)} (f:∀ c∈L,FitsAll [.int .u8, .int .u8, .int .u8] c):∃ l:List TCh,L=l.map TCh.cells∧∀ x∈l,x.Ok:=by
 refine rows_map' (p:=fun x:TCh=>x.Ok) (f:=TCh.cells) (fun c hc=>?_)
 obtain ⟨_,_,rfl,⟨a,rfl,wa⟩,_,_,rfl,⟨b,rfl,wb⟩,_,_,rfl,⟨d,rfl,wd⟩,rfl⟩:=f c hc
 exact ⟨⟨a,b,d⟩,rfl,by have:=bounds_u8 wa;simp only;omega,by have:=bounds_u8 wb;simp only;omega,by have:=bounds_u8 wd;simp only;omega⟩
theorem flatten_tchs (l:List TCh):(l.map TCh.cells).flatten=l.flatMap TCh.cells:=by rw [List.flatMap_def]
end Go.Proofs.YtelepohdfcjnfaaGreat
