/-
  A part of a function's code, named by the way to it.
-/
import Derived.Test.YtelepohdfcjnfaaBase
namespace Go.Proofs.Ytelepohdfcjnfaa
open Go.RowKit Go.Proofs

/-- the part of a code at the end of a way: 0 the left or only part, 1 the right part -/
def codeAt : List Nat → Code → Code
  | [], c => c
  | 0 :: p, .seq a _ => codeAt p a
  | _ :: p, .seq _ b => codeAt p b
  | _ :: p, .block _ c => codeAt p c
  | _ :: p, .loop c => codeAt p c
  | _ :: p, .scope c => codeAt p c
  | 0 :: p, .cond _ a _ => codeAt p a
  | _ :: p, .cond _ _ b => codeAt p b
  | _, _ => .skip
/-- a continuation that is known by its code alone: walk on into that code -/
theorem wp_tail {P : Program} {x y : Code} {K : Act → World → Prop} {Q : Exit → Act → World → Prop} {a : Act} {w : World} (h : x.wp P (Exit.then (fun a w => y.wp P Q a w) Q) a w) (hK : ∀ a w, y.wp P Q a w → K a w) : x.wp P (Exit.then K Q) a w :=
  wp_mono h (fun e a w q => by cases e <;> first | exact hK _ _ q | exact q)
theorem wp_tail2 {P : Program} {x y z : Code} {K K1 : Act → World → Prop} {Q : Exit → Act → World → Prop} {a : Act} {w : World}
    (h : x.wp P (Exit.then (fun a w => y.wp P (Exit.then (fun a w => z.wp P Q a w) Q) a w) (Exit.then (fun a w => z.wp P Q a w) Q)) a w) (hK : ∀ a w, y.wp P (Exit.then K1 Q) a w → K a w) (hK1 : ∀ a w, z.wp P Q a w → K1 a w) : x.wp P (Exit.then K (Exit.then K1 Q)) a w :=
  wp_mono h (fun e a w q => by
    cases e with
    | normal => exact hK _ _ (wp_mono q (fun e a w q => by cases e <;> first | exact hK1 _ _ q | exact q))
    | _ => exact q)
end Go.Proofs.Ytelepohdfcjnfaa
