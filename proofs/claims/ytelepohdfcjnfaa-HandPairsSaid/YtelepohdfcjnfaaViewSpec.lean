/-
  Views in plain Lean.
-/
import Derived.Test.YtelepohdfcjnfaaSetSpec
import Derived.Test.YtelepohdfcjnfaaDrawG
namespace Go.Proofs.Ytelepohdfcjnfaa
open Go.RowKit Go.Proofs

/-- a view: the node, who is active (and for how many), who is passive -/
structure Vw where
  self : Int
  act : List Int
  am : Int
  pas : List Int
  pm : Int
structure Vw.Good (v : Vw) : Prop where
  act : Go.Proofs.Ytelepohdfcjnfaa.Good v.act v.am
  pas : Go.Proofs.Ytelepohdfcjnfaa.Good v.pas v.pm

/-- one of some, and the numbers that are left -/
def oneV (ds l : List Int) : Int × Bool × List Int := if l = [] then (0, false, ds) else (l.getD (belN ds l.length) 0, true, (bel ds l.length).2)

def vForget (v : Vw) (n : Int) : Vw := { v with pas := sDrop v.pas n }
def vJoinOk (v : Vw) (n : Int) : Bool := sAddOk v.act v.am n && !(n == v.self)
def vJoin (v : Vw) (n : Int) : Vw := if vJoinOk v n = true then { v with act := sAdd v.act v.am n, pas := sDrop v.pas n } else v
/-- is a node one that a view would come to know? -/
def vNew (v : Vw) (n : Int) : Bool := decide (1 ≤ n) && decide (n ≤ 65535) && !(n == v.self) && !has v.act n && !has v.pas n
def vFull (v : Vw) : Bool := decide (v.pm ≤ (v.pas.length : Int))
/-- who is passive, and the numbers that are left, when a new node comes -/
def vRoom (v : Vw) (ds : List Int) : List Int × List Int := if vFull v = true ∧ v.pas ≠ [] then (sDrop v.pas (oneV ds v.pas).1, (oneV ds v.pas).2.2) else (v.pas, ds)
def vKnow (v : Vw) (n : Int) (ds : List Int) : Vw × List Int :=
  if vNew v n = true then ({ v with pas := if sAddOk (vRoom v ds).1 v.pm n = true then sAdd (vRoom v ds).1 v.pm n else v.pas }, (vRoom v ds).2) else (v, ds)
def vLeave (v : Vw) (n : Int) (keep : Bool) (ds : List Int) : Vw × Bool × List Int :=
  if has v.act n = true then
    (if keep = true then ((vKnow { v with act := sDrop v.act n } n ds).1, true, (vKnow { v with act := sDrop v.act n } n ds).2) else ({ v with act := sDrop v.act n }, true, ds))
  else (v, false, ds)
def vEvict (v : Vw) (ds : List Int) : Vw × Int × Bool × List Int :=
  if v.act = [] then (v, 0, false, ds) else
    ((vLeave v (oneV ds v.act).1 true (oneV ds v.act).2.2).1, (oneV ds v.act).1, true, (vLeave v (oneV ds v.act).1 true (oneV ds v.act).2.2).2.2)
def vSane (v : Vw) : Bool := !has v.act v.self && !has v.pas v.self && !v.act.any (has v.pas)

theorem vForget_good {v : Vw} (h : v.Good) (n : Int) : (vForget v n).Good := ⟨h.act, h.pas.drop n⟩
theorem vJoin_good {v : Vw} (h : v.Good) (n : Int) : (vJoin v n).Good := by
  unfold vJoin
  split
  · exact ⟨h.act.add n, h.pas.drop n⟩
  · exact h
theorem vRoom_good {v : Vw} (h : v.Good) (ds : List Int) : Go.Proofs.Ytelepohdfcjnfaa.Good (vRoom v ds).1 v.pm := by
  unfold vRoom
  split
  · exact h.pas.drop _
  · exact h.pas
theorem vKnow_good {v : Vw} (h : v.Good) (n : Int) (ds : List Int) : (vKnow v n ds).1.Good := by
  unfold vKnow
  split
  · refine ⟨h.act, ?_⟩
    simp only
    split
    · exact (vRoom_good h ds).add n
    · exact h.pas
  · exact h
theorem vLeave_good {v : Vw} (h : v.Good) (n : Int) (keep : Bool) (ds : List Int) : (vLeave v n keep ds).1.Good := by
  have h2 : Vw.Good { v with act := sDrop v.act n } := ⟨h.act.drop n, h.pas⟩
  unfold vLeave
  split
  · split
    · exact vKnow_good h2 n ds
    · exact h2
  · exact h
theorem vEvict_good {v : Vw} (h : v.Good) (ds : List Int) : (vEvict v ds).1.Good := by
  unfold vEvict
  split
  · exact h
  · exact vLeave_good h _ _ _
end Go.Proofs.Ytelepohdfcjnfaa
