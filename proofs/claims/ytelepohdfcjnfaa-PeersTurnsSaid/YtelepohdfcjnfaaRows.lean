/-
  No cell of these rows narrows 'for every input' (looked for: loops, veiled, ifaces, maps, wideKeys, modest, calm, conditions, laid).
  DERIVED. THE GIVEN ROWS OF THIS SEAT. 5 by the template 'for every input the law returns true; each argument reads behind the call as it read before'; 0 by the template 'total and deterministic' (their statements: YtelepohdfcjnfaaTotals.lean).
  GIVEN WITH THE SEED: the statements are not yours to turn. If you find one false, say at which input.
  Laid BY PROGRAM, IN A SANDBOX (cutbox-rows.mjs): the forced cells as the released guide's own fill.sh prints them over the translation 34d9bffee63e1d7f… (all of the seat's roots in one cut). By AI agents, Wed Nov 11 2026. No macro, syntax, notation, axiom, sorry.
-/
import Derived.Test.YtelepohdfcjnfaaChecked
import GoSem.Claim
import GoSem.ClaimJoined
import GoSem.ClaimMapViews
import Derived.JoinedTies
import Derived.KernelRfl
namespace Go.Proofs.Ytelepohdfcjnfaa
/- THE CELL 'sum', in the pinned program and in every row, IS THE sha256 OF THE DUMP (.gsa) THAT YtelepohdfcjnfaaProg.lean LOADS. Nothing in Lean hashes anything: it is a label: what it is worth is what the hold of that sum in a sandbox is worth. -/
noncomputable def Try.pinned : Pinned := { name := "ytelepohdfcjnfaa", sum := "34d9bffee63e1d7f22ca0a949dae64eb36e4abf20e7cf2b9731138d966f59a55", checked := Try.checked }
namespace Rows
def none {H : Type} : Left H := { results := [], args := [] }

/-- 'bellhoplaw11.HandPairs': WHATEVER THE INPUT: true; the input reads as it did. -/
def handPairsSpec : ChangeSpec := { name := "handPairs", fn := fun _ => fun
  | [d1, d2, d3] => { results := [.lit (.bool true)], args := [d1, d2, d3] }
  | _ => none }
def handPairsRow : OpenClaim := { program := "ytelepohdfcjnfaa", sum := "34d9bffee63e1d7f22ca0a949dae64eb36e4abf20e7cf2b9731138d966f59a55", func := "bellhop/bellhoplaw11.HandPairs", spec := "handPairs", inPlace := ["slices.overlaps[int]"], apart := false }
def HandPairsSaid : Prop := handPairsRow.holds Try.pinned (OpenSpec.ofChange handPairsSpec)

/-- ITS FALSE NEIGHBOUR: 'it returns false'. Refute it at one input. -/
def handPairsWrong : ChangeSpec := { name := "handPairs", fn := fun _ => fun
  | [d1, d2, d3] => { results := [.lit (.bool false)], args := [d1, d2, d3] }
  | _ => none }
def HandPairsWrongFalsely : Prop := handPairsRow.holds Try.pinned (OpenSpec.ofChange handPairsWrong)

/-- 'bellhoplaw13.OverlayJoins': WHATEVER THE INPUT: true; the input reads as it did. -/
def overlayJoinsSpec : ChangeSpec := { name := "overlayJoins", fn := fun _ => fun
  | [d1, d2] => { results := [.lit (.bool true)], args := [d1, d2] }
  | _ => none }
def overlayJoinsRow : OpenClaim := { program := "ytelepohdfcjnfaa", sum := "34d9bffee63e1d7f22ca0a949dae64eb36e4abf20e7cf2b9731138d966f59a55", func := "bellhop/bellhoplaw13.OverlayJoins", spec := "overlayJoins", inPlace := ["slices.overlaps[int]"], unfollowed := true, recurses := true, apart := false }
def OverlayJoinsSaid : Prop := overlayJoinsRow.holds Try.pinned (OpenSpec.ofChange overlayJoinsSpec)

/-- ITS FALSE NEIGHBOUR: 'it returns false'. Refute it at one input. -/
def overlayJoinsWrong : ChangeSpec := { name := "overlayJoins", fn := fun _ => fun
  | [d1, d2] => { results := [.lit (.bool false)], args := [d1, d2] }
  | _ => none }
def OverlayJoinsWrongFalsely : Prop := overlayJoinsRow.holds Try.pinned (OpenSpec.ofChange overlayJoinsWrong)

/-- 'bellhoplaw17.PeersPlays': WHATEVER THE INPUT: true; the input reads as it did. -/
def peersPlaysSpec : ChangeSpec := { name := "peersPlays", fn := fun _ => fun
  | [d] => { results := [.lit (.bool true)], args := [d] }
  | _ => none }
def peersPlaysRow : OpenClaim := { program := "ytelepohdfcjnfaa", sum := "34d9bffee63e1d7f22ca0a949dae64eb36e4abf20e7cf2b9731138d966f59a55", func := "bellhop/bellhoplaw17.PeersPlays", spec := "peersPlays", inPlace := ["slices.overlaps[int]"], unfollowed := true, recurses := true, apart := false }
def PeersPlaysSaid : Prop := peersPlaysRow.holds Try.pinned (OpenSpec.ofChange peersPlaysSpec)

/-- ITS FALSE NEIGHBOUR: 'it returns false'. Refute it at one input. -/
def peersPlaysWrong : ChangeSpec := { name := "peersPlays", fn := fun _ => fun
  | [d] => { results := [.lit (.bool false)], args := [d] }
  | _ => none }
def PeersPlaysWrongFalsely : Prop := peersPlaysRow.holds Try.pinned (OpenSpec.ofChange peersPlaysWrong)

/-- 'bellhoplaw17.PeersTurns': WHATEVER THE INPUT: true; the input reads as it did. -/
def peersTurnsSpec : ChangeSpec := { name := "peersTurns", fn := fun _ => fun
  | [d1, d2] => { results := [.lit (.bool true)], args := [d1, d2] }
  | _ => none }
def peersTurnsRow : OpenClaim := { program := "ytelepohdfcjnfaa", sum := "34d9bffee63e1d7f22ca0a949dae64eb36e4abf20e7cf2b9731138d966f59a55", func := "bellhop/bellhoplaw17.PeersTurns", spec := "peersTurns", inPlace := ["slices.overlaps[int]"], unfollowed := true, recurses := true, apart := false }
def PeersTurnsSaid : Prop := peersTurnsRow.holds Try.pinned (OpenSpec.ofChange peersTurnsSpec)

/-- ITS FALSE NEIGHBOUR: 'it returns false'. Refute it at one input. -/
def peersTurnsWrong : ChangeSpec := { name := "peersTurns", fn := fun _ => fun
  | [d1, d2] => { results := [.lit (.bool false)], args := [d1, d2] }
  | _ => none }
def PeersTurnsWrongFalsely : Prop := peersTurnsRow.holds Try.pinned (OpenSpec.ofChange peersTurnsWrong)

/-- 'bellhoplaw17.PeersMatch': WHATEVER THE INPUT: true; the input reads as it did. -/
def peersMatchSpec : ChangeSpec := { name := "peersMatch", fn := fun _ => fun
  | [d1, d2] => { results := [.lit (.bool true)], args := [d1, d2] }
  | _ => none }
def peersMatchRow : OpenClaim := { program := "ytelepohdfcjnfaa", sum := "34d9bffee63e1d7f22ca0a949dae64eb36e4abf20e7cf2b9731138d966f59a55", func := "bellhop/bellhoplaw17.PeersMatch", spec := "peersMatch", inPlace := ["slices.overlaps[int]"], unfollowed := true, recurses := true, apart := false }
def PeersMatchSaid : Prop := peersMatchRow.holds Try.pinned (OpenSpec.ofChange peersMatchSpec)

/-- ITS FALSE NEIGHBOUR: 'it returns false'. Refute it at one input. -/
def peersMatchWrong : ChangeSpec := { name := "peersMatch", fn := fun _ => fun
  | [d1, d2] => { results := [.lit (.bool false)], args := [d1, d2] }
  | _ => none }
def PeersMatchWrongFalsely : Prop := peersMatchRow.holds Try.pinned (OpenSpec.ofChange peersMatchWrong)

/- THE SECOND FORM. 'bulk': how many values and letters a reading holds, each counted each time it is reached (what is shared counts as often as it is met; a slice's spare places count too). A statement '..UptoSaid' is the law's where the arguments, and the package variables that the reading takes, are together of bulk at most 1048576: NARROWER than '..Said'. Prove '..Said' where nothing that the law and all that it calls make is longer than what came in: it says more and counts as full. Else prove '..UptoSaid'. A law counts once. -/
mutual
def uptoBulk {H : Type} : DataW H → Nat
  | .lit (.string bytes) => bytes.length + 1
  | .lit _ => 1
  | .nil => 1
  | .ptr d => uptoBulk d + 1
  | .slice elems spare => uptoBulkAll elems + uptoBulkAll spare + 1
  | .agg parts => uptoBulkAll parts + 1
  | .iface _ d => uptoBulk d + 1
  | .map entries => uptoBulkEntries entries + 1
  | .held _ => 1
def uptoBulkAll {H : Type} : List (DataW H) → Nat
  | [] => 0
  | d :: r => uptoBulk d + uptoBulkAll r
def uptoBulkEntries {H : Type} : List (Lit × DataW H) → Nat
  | [] => 0
  | x :: r => uptoBulkEntry x + uptoBulkEntries r
def uptoBulkEntry {H : Type} : Lit × DataW H → Nat
  | (.string bytes, d) => bytes.length + uptoBulk d + 1
  | (_, d) => uptoBulk d + 1
 end
def uptoSmall : (H : Type) → List (DataW H) → Bool := fun _ ds => decide (uptoBulkAll ds ≤ 1048576)
def OpenSpec.upto (s : _root_.Go.ChangeSpec) : _root_.Go.OpenSpec := { _root_.Go.OpenSpec.ofChange s with cond := some uptoSmall }

/-- 'bellhoplaw11.HandPairs', WHERE WHAT IT READS IS OF BULK AT MOST 1048576: true; the input reads as it did. -/
def handPairsUptoRow : OpenClaim := { program := "ytelepohdfcjnfaa", sum := "34d9bffee63e1d7f22ca0a949dae64eb36e4abf20e7cf2b9731138d966f59a55", func := "bellhop/bellhoplaw11.HandPairs", spec := "handPairs", inPlace := ["slices.overlaps[int]"], apart := false, narrowed := true }
def HandPairsUptoSaid : Prop := handPairsUptoRow.holds Try.pinned (OpenSpec.upto handPairsSpec)

/-- 'bellhoplaw13.OverlayJoins', WHERE WHAT IT READS IS OF BULK AT MOST 1048576: true; the input reads as it did. -/
def overlayJoinsUptoRow : OpenClaim := { program := "ytelepohdfcjnfaa", sum := "34d9bffee63e1d7f22ca0a949dae64eb36e4abf20e7cf2b9731138d966f59a55", func := "bellhop/bellhoplaw13.OverlayJoins", spec := "overlayJoins", inPlace := ["slices.overlaps[int]"], unfollowed := true, recurses := true, apart := false, narrowed := true }
def OverlayJoinsUptoSaid : Prop := overlayJoinsUptoRow.holds Try.pinned (OpenSpec.upto overlayJoinsSpec)

/-- 'bellhoplaw17.PeersPlays', WHERE WHAT IT READS IS OF BULK AT MOST 1048576: true; the input reads as it did. -/
def peersPlaysUptoRow : OpenClaim := { program := "ytelepohdfcjnfaa", sum := "34d9bffee63e1d7f22ca0a949dae64eb36e4abf20e7cf2b9731138d966f59a55", func := "bellhop/bellhoplaw17.PeersPlays", spec := "peersPlays", inPlace := ["slices.overlaps[int]"], unfollowed := true, recurses := true, apart := false, narrowed := true }
def PeersPlaysUptoSaid : Prop := peersPlaysUptoRow.holds Try.pinned (OpenSpec.upto peersPlaysSpec)

/-- 'bellhoplaw17.PeersTurns', WHERE WHAT IT READS IS OF BULK AT MOST 1048576: true; the input reads as it did. -/
def peersTurnsUptoRow : OpenClaim := { program := "ytelepohdfcjnfaa", sum := "34d9bffee63e1d7f22ca0a949dae64eb36e4abf20e7cf2b9731138d966f59a55", func := "bellhop/bellhoplaw17.PeersTurns", spec := "peersTurns", inPlace := ["slices.overlaps[int]"], unfollowed := true, recurses := true, apart := false, narrowed := true }
def PeersTurnsUptoSaid : Prop := peersTurnsUptoRow.holds Try.pinned (OpenSpec.upto peersTurnsSpec)

/-- 'bellhoplaw17.PeersMatch', WHERE WHAT IT READS IS OF BULK AT MOST 1048576: true; the input reads as it did. -/
def peersMatchUptoRow : OpenClaim := { program := "ytelepohdfcjnfaa", sum := "34d9bffee63e1d7f22ca0a949dae64eb36e4abf20e7cf2b9731138d966f59a55", func := "bellhop/bellhoplaw17.PeersMatch", spec := "peersMatch", inPlace := ["slices.overlaps[int]"], unfollowed := true, recurses := true, apart := false, narrowed := true }
def PeersMatchUptoSaid : Prop := peersMatchUptoRow.holds Try.pinned (OpenSpec.upto peersMatchSpec)

end Rows
end Go.Proofs.Ytelepohdfcjnfaa
