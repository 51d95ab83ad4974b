/-
  Hands in plain Lean.
-/
import Derived.Test.YtelepohdfcjnfaaViewLaw
namespace Go.Proofs.Ytelepohdfcjnfaa
open Go.RowKit Go.Proofs

/-- a hand: its view, and whom it asked -/
structure Hd where
  v : Vw
  asked : List Int
structure Hd.Good (h : Hd) : Prop where
  v : h.v.Good
  asked : Go.Proofs.Ytelepohdfcjnfaa.Good h.asked 64
/-- a word to a node: kinds 3 Ask, 4 Yes, 5 No, 6 Bye -/
structure Ho where
  who : Int
  kind : Int
  high : Bool
def hNew (self a p : Int) : Hd := ⟨⟨self, [], min (max a 0) 64, [], min (max p 0) 64⟩, []⟩
def vaFull (v : Vw) : Bool := decide (v.am ≤ (v.act.length : Int))
def hAsks (h : Hd) (n : Int) : Bool := !(n == h.v.self) && !has h.v.act n && !has h.asked n && sAddOk h.asked 64 n
def hAsk (h : Hd) (n : Int) (high : Bool) : Hd × List Ho :=
  if hAsks h n = true then (⟨h.v, sAdd h.asked 64 n⟩, [⟨n, 3, high⟩]) else (h, [])
/-- whom a full view evicts, and the numbers that are left -/
def hEv (h : Hd) (ds : List Int) : Vw × Int × Bool × List Int := if vaFull h.v = true then vEvict h.v ds else (h.v, 0, false, ds)
def hEvs (h : Hd) (n : Int) (ds : List Int) : Bool := (hEv h ds).2.2.1 && !(n == h.v.self)
def hRoomV (h : Hd) (n : Int) (ds : List Int) : Vw := if hEvs h n ds = true then (hEv h ds).1 else h.v
def hRoomA (h : Hd) (n : Int) (ds : List Int) : List Int := if hEvs h n ds = true then sDrop h.asked (hEv h ds).2.1 else h.asked
def hRoomO (h : Hd) (n : Int) (ds : List Int) : List Ho := if hEvs h n ds = true then [⟨(hEv h ds).2.1, 6, false⟩] else []
def hTake (h : Hd) (n : Int) (ds : List Int) : Hd × List Ho × Bool × List Int :=
  if has h.v.act n = true then (h, [], true, ds) else
    if vJoinOk (hRoomV h n ds) n = true then (⟨vJoin (hRoomV h n ds) n, hRoomA h n ds⟩, hRoomO h n ds, true, (hEv h ds).2.2.2) else (h, [], false, (hEv h ds).2.2.2)
def hMay (h : Hd) (n : Int) (high : Bool) : Bool := decide (1 ≤ n) && decide (n ≤ 65535) && !(n == h.v.self) && (high || !vaFull h.v)
def hOnAsk (h : Hd) (n : Int) (high : Bool) (ds : List Int) : Hd × List Ho × List Int :=
  if has h.v.act n = true then (h, [⟨n, 4, false⟩], ds) else
    if hMay h n high = true then
      (if (hTake h n ds).2.2.1 = true then ((hTake h n ds).1, (hTake h n ds).2.1 ++ [⟨n, 4, false⟩], (hTake h n ds).2.2.2) else (h, [⟨n, 5, false⟩], (hTake h n ds).2.2.2))
    else (h, [⟨n, 5, false⟩], ds)
def hOnYes (h : Hd) (n : Int) (ds : List Int) : Hd × List Ho × List Int :=
  if has h.asked n = true then ((hTake ⟨h.v, sDrop h.asked n⟩ n ds).1, (hTake ⟨h.v, sDrop h.asked n⟩ n ds).2.1, (hTake ⟨h.v, sDrop h.asked n⟩ n ds).2.2.2) else
    if has h.v.act n = true then (h, [], ds) else (h, [⟨n, 6, false⟩], ds)
def hOnBye (h : Hd) (n : Int) (ds : List Int) : Hd × List Int := (⟨(vLeave h.v n true ds).1, h.asked⟩, (vLeave h.v n true ds).2.2)
def hOnNo (h : Hd) (n : Int) (ds : List Int) : Hd × List Ho × List Int :=
  if has h.v.act n = true then ((hOnBye ⟨h.v, sDrop h.asked n⟩ n ds).1, [⟨n, 6, false⟩], (hOnBye ⟨h.v, sDrop h.asked n⟩ n ds).2) else (⟨h.v, sDrop h.asked n⟩, [], ds)
def hOnBreak (h : Hd) (n : Int) : Hd := ⟨vForget (vLeave h.v n false []).1 n, sDrop h.asked n⟩
end Go.Proofs.Ytelepohdfcjnfaa
